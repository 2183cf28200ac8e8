/- The document's disk: Do. -/
import Derived.Test.YtomihbanpjedeaaRefDisk
import Derived.BigQuiet
namespace Go.Proofs.Ytomihbanpjedeaa
open Go.RowKit Go.Proofs.YtomihbanpjedeaaW.PrintLast
set_option linter.unusedSimpArgs false
theorem Rd.stay {w0 w w1 : World} {R F : Nat → Prop} {x n : Nat} {s : St} {A P : Option Addr} {cS cp : Nat} {ps : List Ac} (hB : Blk w x (.slice A n cS) (.slice P ps.length cp) s.fu s.dn) (hk : Rk w0 w R F x n s.sy s.nw s.pn A cS P cp ps) (hb : Below w.heap.size w w1)
    (hf1 : -9223372036854775808 ≤ s.fu) (hf2 : s.fu ≤ 9223372036854775807) {ev : Int} : RPost w0 w R F x n s ev (.returned (.int .i64 ev)) w1 :=
  Rd.turn hB hk hb (One.refl _ _) (hB.below hb) hf1 hf2 rfl
/-- Draws turn nothing. -/
theorem Below.drws {B : Nat} {w w1 : World} (h : Below B w w1) (q : Nat) : Below B w (w1.drewN q) := ⟨h.os, h.tape, h.output, h.size, h.block⟩
theorem Blk.drws {w : World} {x : Nat} {a0 a1 : Value} {fu : Int} {dn : Bool} (h : Blk w x a0 a1 fu dn) (q : Nat) : Blk (w.drewN q) x a0 a1 fu dn := h
theorem Ac.one (a : Ac) : ∀ u ∈ a.cells, u.oneCell' = true := by intro u hu; simp [Ac.cells] at hu; rcases hu with rfl | rfl | rfl | rfl | rfl | rfl <;> rfl

set_option maxHeartbeats 1000000 in
set_option maxRecDepth 100000 in
theorem ref_write_down (w0 w : World) (R F : Nat → Prop) (x n : Nat) (s : St) (a : Ac) (h : Rd w0 w R F x n s) (hn : n ≤ 2048) (hpn : s.pn.length ≤ 1000000) (ha : a.Ok w0) (hk0 : a.kind = 0) (hd : s.dn = true) :
    Calls Try.prog 26 #[.pointer (some ⟨x, 0, none⟩), a.val] w fun e w' => RPost w0 w R F x n (s) 13 e w' := by
  obtain ⟨A, cS, P, cp, ps, hB, hk, f1, f2⟩ := h
  have hbb : Below w.heap.size w (w.alloc (.cells #[.int .i64 a.kind, .int .i64 a.at_, .slice a.A a.ks.length a.c, .int .u64 (a.p.keep : Int), .int .i64 a.p.torn, .int .i64 a.p.cut] 43)) := (Below.refl _ _).alloc (Nat.le_refl _) _
  have hB1 := hB.below hbb
  have hnew := heap_alloc_new w (.cells #[.int .i64 a.kind, .int .i64 a.at_, .slice a.A a.ks.length a.c, .int .u64 (a.p.keep : Int), .int .i64 a.p.torn, .int .i64 a.p.cut] 43)
  have e0 : (w.alloc (.cells #[.int .i64 a.kind, .int .i64 a.at_, .slice a.A a.ks.length a.c, .int .u64 (a.p.keep : Int), .int .i64 a.p.torn, .int .i64 a.p.cut] 43)).cell? ⟨w.heap.size, 0, none⟩ = some (.int .i64 a.kind) := by rw [cell_of_row _ _ 0 _ _ _ hnew]; rfl
  have e1 : (w.alloc (.cells #[.int .i64 a.kind, .int .i64 a.at_, .slice a.A a.ks.length a.c, .int .u64 (a.p.keep : Int), .int .i64 a.p.torn, .int .i64 a.p.cut] 43)).cell? ⟨w.heap.size, 1, none⟩ = some (.int .i64 a.at_) := by rw [cell_of_row _ _ 1 _ _ _ hnew]; rfl
  have e2 : (w.alloc (.cells #[.int .i64 a.kind, .int .i64 a.at_, .slice a.A a.ks.length a.c, .int .u64 (a.p.keep : Int), .int .i64 a.p.torn, .int .i64 a.p.cut] 43)).cell? ⟨w.heap.size, 2, none⟩ = some (.slice a.A a.ks.length a.c) := by rw [cell_of_row _ _ 2 _ _ _ hnew]; rfl
  have c0 := hB1.c0
  have c1 := hB1.c1
  have c2 := hB1.c2
  have c3 := hB1.c3
  have hav : a.val = .agg #[.int .i64 a.kind, .int .i64 a.at_, .slice a.A a.ks.length a.c, .int .u64 (a.p.keep : Int), .int .i64 a.p.torn, .int .i64 a.p.cut] := rfl
  rw [hav]
  have F12 := Lib.hid (And.intro f1 f2)
  have t0 : (a.kind == 0) = true := by simp [hk0]
  clear hk0
  rw [hd] at c3
  have HB := Lib.hid hB
  have HB1 := Lib.hid hB1
  have HK := Lib.hid hk
  have HH := Lib.hid hbb
  have HN := Lib.hid hnew
  have HA := Lib.hid ha
  clear hB hB1 hk hbb hnew ha hav
  clear hn hpn f1 f2
  go_enter Try.func26, Try.ntmps26
  go_wp2_with fail
  go_ret
  have hq := HH.out
  exact Rd.stay HB.out HK.out ⟨hq.os, hq.tape, hq.output, hq.size, hq.block⟩ F12.out.1 F12.out.2

set_option maxHeartbeats 1000000 in
set_option maxRecDepth 100000 in
theorem ref_write_low (w0 w : World) (R F : Nat → Prop) (x n : Nat) (s : St) (a : Ac) (h : Rd w0 w R F x n s) (hn : n ≤ 2048) (hpn : s.pn.length ≤ 1000000) (ha : a.Ok w0) (hk0 : a.kind = 0) (hd : s.dn = false) (hr : a.at_ < 0) :
    Calls Try.prog 26 #[.pointer (some ⟨x, 0, none⟩), a.val] w fun e w' => RPost w0 w R F x n (s) 3 e w' := by
  obtain ⟨A, cS, P, cp, ps, hB, hk, f1, f2⟩ := h
  have hbb : Below w.heap.size w (w.alloc (.cells #[.int .i64 a.kind, .int .i64 a.at_, .slice a.A a.ks.length a.c, .int .u64 (a.p.keep : Int), .int .i64 a.p.torn, .int .i64 a.p.cut] 43)) := (Below.refl _ _).alloc (Nat.le_refl _) _
  have hB1 := hB.below hbb
  have hnew := heap_alloc_new w (.cells #[.int .i64 a.kind, .int .i64 a.at_, .slice a.A a.ks.length a.c, .int .u64 (a.p.keep : Int), .int .i64 a.p.torn, .int .i64 a.p.cut] 43)
  have e0 : (w.alloc (.cells #[.int .i64 a.kind, .int .i64 a.at_, .slice a.A a.ks.length a.c, .int .u64 (a.p.keep : Int), .int .i64 a.p.torn, .int .i64 a.p.cut] 43)).cell? ⟨w.heap.size, 0, none⟩ = some (.int .i64 a.kind) := by rw [cell_of_row _ _ 0 _ _ _ hnew]; rfl
  have e1 : (w.alloc (.cells #[.int .i64 a.kind, .int .i64 a.at_, .slice a.A a.ks.length a.c, .int .u64 (a.p.keep : Int), .int .i64 a.p.torn, .int .i64 a.p.cut] 43)).cell? ⟨w.heap.size, 1, none⟩ = some (.int .i64 a.at_) := by rw [cell_of_row _ _ 1 _ _ _ hnew]; rfl
  have e2 : (w.alloc (.cells #[.int .i64 a.kind, .int .i64 a.at_, .slice a.A a.ks.length a.c, .int .u64 (a.p.keep : Int), .int .i64 a.p.torn, .int .i64 a.p.cut] 43)).cell? ⟨w.heap.size, 2, none⟩ = some (.slice a.A a.ks.length a.c) := by rw [cell_of_row _ _ 2 _ _ _ hnew]; rfl
  have c0 := hB1.c0
  have c1 := hB1.c1
  have c2 := hB1.c2
  have c3 := hB1.c3
  have hav : a.val = .agg #[.int .i64 a.kind, .int .i64 a.at_, .slice a.A a.ks.length a.c, .int .u64 (a.p.keep : Int), .int .i64 a.p.torn, .int .i64 a.p.cut] := rfl
  rw [hav]
  have F12 := Lib.hid (And.intro f1 f2)
  have t0 : (a.kind == 0) = true := by simp [hk0]
  clear hk0
  rw [hd] at c3
  have t9 : decide (a.at_ < 0) = true := by simp; omega
  clear hr
  have HB := Lib.hid hB
  have HB1 := Lib.hid hB1
  have HK := Lib.hid hk
  have HH := Lib.hid hbb
  have HN := Lib.hid hnew
  have HA := Lib.hid ha
  clear hB hB1 hk hbb hnew ha hav
  clear hn hpn f1 f2
  go_enter Try.func26, Try.ntmps26
  go_wp2_with fail
  go_quiet (fail)
  go_wp2_with fail
  go_ret
  have hq := HH.out
  exact Rd.stay HB.out HK.out (Below.drws hq _) F12.out.1 F12.out.2

set_option maxHeartbeats 1000000 in
set_option maxRecDepth 100000 in
theorem ref_write_high (w0 w : World) (R F : Nat → Prop) (x n : Nat) (s : St) (a : Ac) (h : Rd w0 w R F x n s) (hn : n ≤ 2048) (hpn : s.pn.length ≤ 1000000) (ha : a.Ok w0) (hk0 : a.kind = 0) (hd : s.dn = false) (hr : (n : Int) ≤ a.at_) :
    Calls Try.prog 26 #[.pointer (some ⟨x, 0, none⟩), a.val] w fun e w' => RPost w0 w R F x n (s) 3 e w' := by
  obtain ⟨A, cS, P, cp, ps, hB, hk, f1, f2⟩ := h
  have hbb : Below w.heap.size w (w.alloc (.cells #[.int .i64 a.kind, .int .i64 a.at_, .slice a.A a.ks.length a.c, .int .u64 (a.p.keep : Int), .int .i64 a.p.torn, .int .i64 a.p.cut] 43)) := (Below.refl _ _).alloc (Nat.le_refl _) _
  have hB1 := hB.below hbb
  have hnew := heap_alloc_new w (.cells #[.int .i64 a.kind, .int .i64 a.at_, .slice a.A a.ks.length a.c, .int .u64 (a.p.keep : Int), .int .i64 a.p.torn, .int .i64 a.p.cut] 43)
  have e0 : (w.alloc (.cells #[.int .i64 a.kind, .int .i64 a.at_, .slice a.A a.ks.length a.c, .int .u64 (a.p.keep : Int), .int .i64 a.p.torn, .int .i64 a.p.cut] 43)).cell? ⟨w.heap.size, 0, none⟩ = some (.int .i64 a.kind) := by rw [cell_of_row _ _ 0 _ _ _ hnew]; rfl
  have e1 : (w.alloc (.cells #[.int .i64 a.kind, .int .i64 a.at_, .slice a.A a.ks.length a.c, .int .u64 (a.p.keep : Int), .int .i64 a.p.torn, .int .i64 a.p.cut] 43)).cell? ⟨w.heap.size, 1, none⟩ = some (.int .i64 a.at_) := by rw [cell_of_row _ _ 1 _ _ _ hnew]; rfl
  have e2 : (w.alloc (.cells #[.int .i64 a.kind, .int .i64 a.at_, .slice a.A a.ks.length a.c, .int .u64 (a.p.keep : Int), .int .i64 a.p.torn, .int .i64 a.p.cut] 43)).cell? ⟨w.heap.size, 2, none⟩ = some (.slice a.A a.ks.length a.c) := by rw [cell_of_row _ _ 2 _ _ _ hnew]; rfl
  have c0 := hB1.c0
  have c1 := hB1.c1
  have c2 := hB1.c2
  have c3 := hB1.c3
  have hav : a.val = .agg #[.int .i64 a.kind, .int .i64 a.at_, .slice a.A a.ks.length a.c, .int .u64 (a.p.keep : Int), .int .i64 a.p.torn, .int .i64 a.p.cut] := rfl
  rw [hav]
  have F12 := Lib.hid (And.intro f1 f2)
  have t0 : (a.kind == 0) = true := by simp [hk0]
  clear hk0
  rw [hd] at c3
  have t9 : decide (a.at_ < 0) = false := by simp; omega
  have t10 : decide (a.at_ ≥ (n : Int)) = true := by simp; omega
  clear hr
  have HB := Lib.hid hB
  have HB1 := Lib.hid hB1
  have HK := Lib.hid hk
  have HH := Lib.hid hbb
  have HN := Lib.hid hnew
  have HA := Lib.hid ha
  clear hB hB1 hk hbb hnew ha hav
  clear hn hpn f1 f2
  go_enter Try.func26, Try.ntmps26
  go_wp2_with fail
  go_quiet (fail)
  go_wp2_with fail
  go_ret
  have hq := HH.out
  exact Rd.stay HB.out HK.out (Below.drws hq _) F12.out.1 F12.out.2

set_option maxHeartbeats 1000000 in
set_option maxRecDepth 100000 in
theorem ref_write_arg (w0 w : World) (R F : Nat → Prop) (x n : Nat) (s : St) (a : Ac) (h : Rd w0 w R F x n s) (hn : n ≤ 2048) (hpn : s.pn.length ≤ 1000000) (ha : a.Ok w0) (hk0 : a.kind = 0) (hd : s.dn = false) (hr : 0 ≤ a.at_ ∧ a.at_ < n) (hl : a.ks.length ≠ 64) :
    Calls Try.prog 26 #[.pointer (some ⟨x, 0, none⟩), a.val] w fun e w' => RPost w0 w R F x n (s) 14 e w' := by
  obtain ⟨A, cS, P, cp, ps, hB, hk, f1, f2⟩ := h
  have hbb : Below w.heap.size w (w.alloc (.cells #[.int .i64 a.kind, .int .i64 a.at_, .slice a.A a.ks.length a.c, .int .u64 (a.p.keep : Int), .int .i64 a.p.torn, .int .i64 a.p.cut] 43)) := (Below.refl _ _).alloc (Nat.le_refl _) _
  have hB1 := hB.below hbb
  have hnew := heap_alloc_new w (.cells #[.int .i64 a.kind, .int .i64 a.at_, .slice a.A a.ks.length a.c, .int .u64 (a.p.keep : Int), .int .i64 a.p.torn, .int .i64 a.p.cut] 43)
  have e0 : (w.alloc (.cells #[.int .i64 a.kind, .int .i64 a.at_, .slice a.A a.ks.length a.c, .int .u64 (a.p.keep : Int), .int .i64 a.p.torn, .int .i64 a.p.cut] 43)).cell? ⟨w.heap.size, 0, none⟩ = some (.int .i64 a.kind) := by rw [cell_of_row _ _ 0 _ _ _ hnew]; rfl
  have e1 : (w.alloc (.cells #[.int .i64 a.kind, .int .i64 a.at_, .slice a.A a.ks.length a.c, .int .u64 (a.p.keep : Int), .int .i64 a.p.torn, .int .i64 a.p.cut] 43)).cell? ⟨w.heap.size, 1, none⟩ = some (.int .i64 a.at_) := by rw [cell_of_row _ _ 1 _ _ _ hnew]; rfl
  have e2 : (w.alloc (.cells #[.int .i64 a.kind, .int .i64 a.at_, .slice a.A a.ks.length a.c, .int .u64 (a.p.keep : Int), .int .i64 a.p.torn, .int .i64 a.p.cut] 43)).cell? ⟨w.heap.size, 2, none⟩ = some (.slice a.A a.ks.length a.c) := by rw [cell_of_row _ _ 2 _ _ _ hnew]; rfl
  have c0 := hB1.c0
  have c1 := hB1.c1
  have c2 := hB1.c2
  have c3 := hB1.c3
  have hav : a.val = .agg #[.int .i64 a.kind, .int .i64 a.at_, .slice a.A a.ks.length a.c, .int .u64 (a.p.keep : Int), .int .i64 a.p.torn, .int .i64 a.p.cut] := rfl
  rw [hav]
  have F12 := Lib.hid (And.intro f1 f2)
  have t0 : (a.kind == 0) = true := by simp [hk0]
  clear hk0
  rw [hd] at c3
  have t9 : decide (a.at_ < 0) = false := by simp; omega
  have t10 : decide (a.at_ ≥ (n : Int)) = false := by simp; omega
  have t11 : ((a.ks.length : Int) != 64) = true := by simp; omega
  clear hr hl
  have HB := Lib.hid hB
  have HB1 := Lib.hid hB1
  have HK := Lib.hid hk
  have HH := Lib.hid hbb
  have HN := Lib.hid hnew
  have HA := Lib.hid ha
  clear hB hB1 hk hbb hnew ha hav
  clear hn hpn f1 f2
  go_enter Try.func26, Try.ntmps26
  go_wp2_with fail
  go_quiet (fail)
  go_wp2_with fail
  go_ret
  have hq := HH.out
  exact Rd.stay HB.out HK.out (Below.drws hq _) F12.out.1 F12.out.2

set_option maxHeartbeats 1000000 in
set_option maxRecDepth 100000 in
theorem ref_write_burn (w0 w : World) (R F : Nat → Prop) (x n : Nat) (s : St) (a : Ac) (h : Rd w0 w R F x n s) (hn : n ≤ 2048) (hpn : s.pn.length ≤ 1000000) (ha : a.Ok w0) (hk0 : a.kind = 0) (hd : s.dn = false) (hr : 0 ≤ a.at_ ∧ a.at_ < n) (hl : a.ks.length = 64) (hbd : s.burnt.dn = true) :
    Calls Try.prog 26 #[.pointer (some ⟨x, 0, none⟩), a.val] w fun e w' => RPost w0 w R F x n (s.burnt) 13 e w' := by
  obtain ⟨A, cS, P, cp, ps, hB, hk, f1, f2⟩ := h
  have hbb : Below w.heap.size w (w.alloc (.cells #[.int .i64 a.kind, .int .i64 a.at_, .slice a.A a.ks.length a.c, .int .u64 (a.p.keep : Int), .int .i64 a.p.torn, .int .i64 a.p.cut] 43)) := (Below.refl _ _).alloc (Nat.le_refl _) _
  have hB1 := hB.below hbb
  have hnew := heap_alloc_new w (.cells #[.int .i64 a.kind, .int .i64 a.at_, .slice a.A a.ks.length a.c, .int .u64 (a.p.keep : Int), .int .i64 a.p.torn, .int .i64 a.p.cut] 43)
  have e0 : (w.alloc (.cells #[.int .i64 a.kind, .int .i64 a.at_, .slice a.A a.ks.length a.c, .int .u64 (a.p.keep : Int), .int .i64 a.p.torn, .int .i64 a.p.cut] 43)).cell? ⟨w.heap.size, 0, none⟩ = some (.int .i64 a.kind) := by rw [cell_of_row _ _ 0 _ _ _ hnew]; rfl
  have e1 : (w.alloc (.cells #[.int .i64 a.kind, .int .i64 a.at_, .slice a.A a.ks.length a.c, .int .u64 (a.p.keep : Int), .int .i64 a.p.torn, .int .i64 a.p.cut] 43)).cell? ⟨w.heap.size, 1, none⟩ = some (.int .i64 a.at_) := by rw [cell_of_row _ _ 1 _ _ _ hnew]; rfl
  have e2 : (w.alloc (.cells #[.int .i64 a.kind, .int .i64 a.at_, .slice a.A a.ks.length a.c, .int .u64 (a.p.keep : Int), .int .i64 a.p.torn, .int .i64 a.p.cut] 43)).cell? ⟨w.heap.size, 2, none⟩ = some (.slice a.A a.ks.length a.c) := by rw [cell_of_row _ _ 2 _ _ _ hnew]; rfl
  have c0 := hB1.c0
  have c1 := hB1.c1
  have c2 := hB1.c2
  have c3 := hB1.c3
  have hav : a.val = .agg #[.int .i64 a.kind, .int .i64 a.at_, .slice a.A a.ks.length a.c, .int .u64 (a.p.keep : Int), .int .i64 a.p.torn, .int .i64 a.p.cut] := rfl
  rw [hav]
  have F12 := Lib.hid (And.intro f1 f2)
  have HD := Lib.hid hbd
  clear hbd
  have t0 : (a.kind == 0) = true := by simp [hk0]
  clear hk0
  rw [hd] at c3
  have t9 : decide (a.at_ < 0) = false := by simp; omega
  have t10 : decide (a.at_ ≥ (n : Int)) = false := by simp; omega
  rw [hl] at *
  clear hr hl
  have HB := Lib.hid hB
  have HB1 := Lib.hid hB1
  have HK := Lib.hid hk
  have HH := Lib.hid hbb
  have HN := Lib.hid hnew
  have HA := Lib.hid ha
  clear hB hB1 hk hbb hnew ha hav
  clear hn hpn f1 f2
  go_enter Try.func26, Try.ntmps26
  go_wp2_with fail
  go_quiet (fail)
  go_wp2_with fail
  refine (ref_burn x _ _ s _ (HB1.out.drws _) F12.out.1 F12.out.2).mono ?_
  rintro e w2 ⟨rfl, hB2, hO2⟩
  rw [HD.out] at hB2 ⊢
  have HB2 := Lib.hid hB2
  have HO2 := Lib.hid hO2
  clear hB2 hO2
  go_wp2_with fail
  go_ret
  have hq := HH.out
  have hbf := burnt_fu F12.out.1 F12.out.2
  have hb2 := HB2.out
  rw [← HD.out] at hb2
  exact Rd.turn HB.out HK.out (Below.drws hq _) HO2.out hb2 hbf.1 hbf.2 (burnt_eq s)

set_option maxHeartbeats 1000000 in
set_option maxRecDepth 100000 in
theorem ref_sync_down (w0 w : World) (R F : Nat → Prop) (x n : Nat) (s : St) (a : Ac) (h : Rd w0 w R F x n s) (hn : n ≤ 2048) (hpn : s.pn.length ≤ 1000000) (ha : a.Ok w0) (hk0 : a.kind = 1) (hd : s.dn = true) :
    Calls Try.prog 26 #[.pointer (some ⟨x, 0, none⟩), a.val] w fun e w' => RPost w0 w R F x n (s) 13 e w' := by
  obtain ⟨A, cS, P, cp, ps, hB, hk, f1, f2⟩ := h
  have hbb : Below w.heap.size w (w.alloc (.cells #[.int .i64 a.kind, .int .i64 a.at_, .slice a.A a.ks.length a.c, .int .u64 (a.p.keep : Int), .int .i64 a.p.torn, .int .i64 a.p.cut] 43)) := (Below.refl _ _).alloc (Nat.le_refl _) _
  have hB1 := hB.below hbb
  have hnew := heap_alloc_new w (.cells #[.int .i64 a.kind, .int .i64 a.at_, .slice a.A a.ks.length a.c, .int .u64 (a.p.keep : Int), .int .i64 a.p.torn, .int .i64 a.p.cut] 43)
  have e0 : (w.alloc (.cells #[.int .i64 a.kind, .int .i64 a.at_, .slice a.A a.ks.length a.c, .int .u64 (a.p.keep : Int), .int .i64 a.p.torn, .int .i64 a.p.cut] 43)).cell? ⟨w.heap.size, 0, none⟩ = some (.int .i64 a.kind) := by rw [cell_of_row _ _ 0 _ _ _ hnew]; rfl
  have e1 : (w.alloc (.cells #[.int .i64 a.kind, .int .i64 a.at_, .slice a.A a.ks.length a.c, .int .u64 (a.p.keep : Int), .int .i64 a.p.torn, .int .i64 a.p.cut] 43)).cell? ⟨w.heap.size, 1, none⟩ = some (.int .i64 a.at_) := by rw [cell_of_row _ _ 1 _ _ _ hnew]; rfl
  have e2 : (w.alloc (.cells #[.int .i64 a.kind, .int .i64 a.at_, .slice a.A a.ks.length a.c, .int .u64 (a.p.keep : Int), .int .i64 a.p.torn, .int .i64 a.p.cut] 43)).cell? ⟨w.heap.size, 2, none⟩ = some (.slice a.A a.ks.length a.c) := by rw [cell_of_row _ _ 2 _ _ _ hnew]; rfl
  have c0 := hB1.c0
  have c1 := hB1.c1
  have c2 := hB1.c2
  have c3 := hB1.c3
  have hav : a.val = .agg #[.int .i64 a.kind, .int .i64 a.at_, .slice a.A a.ks.length a.c, .int .u64 (a.p.keep : Int), .int .i64 a.p.torn, .int .i64 a.p.cut] := rfl
  rw [hav]
  have F12 := Lib.hid (And.intro f1 f2)
  have t0 : (a.kind == 0) = false := by simp [hk0]
  have t1 : (a.kind == 1) = true := by simp [hk0]
  clear hk0
  rw [hd] at c3
  have HB := Lib.hid hB
  have HB1 := Lib.hid hB1
  have HK := Lib.hid hk
  have HH := Lib.hid hbb
  have HN := Lib.hid hnew
  have HA := Lib.hid ha
  clear hB hB1 hk hbb hnew ha hav
  clear hn hpn f1 f2
  go_enter Try.func26, Try.ntmps26
  go_wp2_with fail
  go_ret
  have hq := HH.out
  exact Rd.stay HB.out HK.out ⟨hq.os, hq.tape, hq.output, hq.size, hq.block⟩ F12.out.1 F12.out.2

set_option maxHeartbeats 1000000 in
set_option maxRecDepth 100000 in
theorem ref_sync_burn (w0 w : World) (R F : Nat → Prop) (x n : Nat) (s : St) (a : Ac) (h : Rd w0 w R F x n s) (hn : n ≤ 2048) (hpn : s.pn.length ≤ 1000000) (ha : a.Ok w0) (hk0 : a.kind = 1) (hd : s.dn = false) (hbd : s.burnt.dn = true) :
    Calls Try.prog 26 #[.pointer (some ⟨x, 0, none⟩), a.val] w fun e w' => RPost w0 w R F x n (s.burnt) 13 e w' := by
  obtain ⟨A, cS, P, cp, ps, hB, hk, f1, f2⟩ := h
  have hbb : Below w.heap.size w (w.alloc (.cells #[.int .i64 a.kind, .int .i64 a.at_, .slice a.A a.ks.length a.c, .int .u64 (a.p.keep : Int), .int .i64 a.p.torn, .int .i64 a.p.cut] 43)) := (Below.refl _ _).alloc (Nat.le_refl _) _
  have hB1 := hB.below hbb
  have hnew := heap_alloc_new w (.cells #[.int .i64 a.kind, .int .i64 a.at_, .slice a.A a.ks.length a.c, .int .u64 (a.p.keep : Int), .int .i64 a.p.torn, .int .i64 a.p.cut] 43)
  have e0 : (w.alloc (.cells #[.int .i64 a.kind, .int .i64 a.at_, .slice a.A a.ks.length a.c, .int .u64 (a.p.keep : Int), .int .i64 a.p.torn, .int .i64 a.p.cut] 43)).cell? ⟨w.heap.size, 0, none⟩ = some (.int .i64 a.kind) := by rw [cell_of_row _ _ 0 _ _ _ hnew]; rfl
  have e1 : (w.alloc (.cells #[.int .i64 a.kind, .int .i64 a.at_, .slice a.A a.ks.length a.c, .int .u64 (a.p.keep : Int), .int .i64 a.p.torn, .int .i64 a.p.cut] 43)).cell? ⟨w.heap.size, 1, none⟩ = some (.int .i64 a.at_) := by rw [cell_of_row _ _ 1 _ _ _ hnew]; rfl
  have e2 : (w.alloc (.cells #[.int .i64 a.kind, .int .i64 a.at_, .slice a.A a.ks.length a.c, .int .u64 (a.p.keep : Int), .int .i64 a.p.torn, .int .i64 a.p.cut] 43)).cell? ⟨w.heap.size, 2, none⟩ = some (.slice a.A a.ks.length a.c) := by rw [cell_of_row _ _ 2 _ _ _ hnew]; rfl
  have c0 := hB1.c0
  have c1 := hB1.c1
  have c2 := hB1.c2
  have c3 := hB1.c3
  have hav : a.val = .agg #[.int .i64 a.kind, .int .i64 a.at_, .slice a.A a.ks.length a.c, .int .u64 (a.p.keep : Int), .int .i64 a.p.torn, .int .i64 a.p.cut] := rfl
  rw [hav]
  have F12 := Lib.hid (And.intro f1 f2)
  have HD := Lib.hid hbd
  clear hbd
  have t0 : (a.kind == 0) = false := by simp [hk0]
  have t1 : (a.kind == 1) = true := by simp [hk0]
  clear hk0
  rw [hd] at c3
  have HB := Lib.hid hB
  have HB1 := Lib.hid hB1
  have HK := Lib.hid hk
  have HH := Lib.hid hbb
  have HN := Lib.hid hnew
  have HA := Lib.hid ha
  clear hB hB1 hk hbb hnew ha hav
  clear hn hpn f1 f2
  go_enter Try.func26, Try.ntmps26
  go_wp2_with fail
  refine (ref_burn x _ _ s _ HB1.out F12.out.1 F12.out.2).mono ?_
  rintro e w2 ⟨rfl, hB2, hO2⟩
  rw [HD.out] at hB2 ⊢
  have HB2 := Lib.hid hB2
  have HO2 := Lib.hid hO2
  clear hB2 hO2
  go_wp2_with fail
  go_ret
  have hq := HH.out
  have hbf := burnt_fu F12.out.1 F12.out.2
  have hb2 := HB2.out
  rw [← HD.out] at hb2
  exact Rd.turn HB.out HK.out ⟨hq.os, hq.tape, hq.output, hq.size, hq.block⟩ HO2.out hb2 hbf.1 hbf.2 (burnt_eq s)

set_option maxHeartbeats 1000000 in
set_option maxRecDepth 100000 in
theorem ref_fuse_down (w0 w : World) (R F : Nat → Prop) (x n : Nat) (s : St) (a : Ac) (h : Rd w0 w R F x n s) (hn : n ≤ 2048) (hpn : s.pn.length ≤ 1000000) (ha : a.Ok w0) (hk0 : a.kind = 2) (hd : s.dn = true) :
    Calls Try.prog 26 #[.pointer (some ⟨x, 0, none⟩), a.val] w fun e w' => RPost w0 w R F x n (s) 0 e w' := by
  obtain ⟨A, cS, P, cp, ps, hB, hk, f1, f2⟩ := h
  have hbb : Below w.heap.size w (w.alloc (.cells #[.int .i64 a.kind, .int .i64 a.at_, .slice a.A a.ks.length a.c, .int .u64 (a.p.keep : Int), .int .i64 a.p.torn, .int .i64 a.p.cut] 43)) := (Below.refl _ _).alloc (Nat.le_refl _) _
  have hB1 := hB.below hbb
  have hnew := heap_alloc_new w (.cells #[.int .i64 a.kind, .int .i64 a.at_, .slice a.A a.ks.length a.c, .int .u64 (a.p.keep : Int), .int .i64 a.p.torn, .int .i64 a.p.cut] 43)
  have e0 : (w.alloc (.cells #[.int .i64 a.kind, .int .i64 a.at_, .slice a.A a.ks.length a.c, .int .u64 (a.p.keep : Int), .int .i64 a.p.torn, .int .i64 a.p.cut] 43)).cell? ⟨w.heap.size, 0, none⟩ = some (.int .i64 a.kind) := by rw [cell_of_row _ _ 0 _ _ _ hnew]; rfl
  have e1 : (w.alloc (.cells #[.int .i64 a.kind, .int .i64 a.at_, .slice a.A a.ks.length a.c, .int .u64 (a.p.keep : Int), .int .i64 a.p.torn, .int .i64 a.p.cut] 43)).cell? ⟨w.heap.size, 1, none⟩ = some (.int .i64 a.at_) := by rw [cell_of_row _ _ 1 _ _ _ hnew]; rfl
  have e2 : (w.alloc (.cells #[.int .i64 a.kind, .int .i64 a.at_, .slice a.A a.ks.length a.c, .int .u64 (a.p.keep : Int), .int .i64 a.p.torn, .int .i64 a.p.cut] 43)).cell? ⟨w.heap.size, 2, none⟩ = some (.slice a.A a.ks.length a.c) := by rw [cell_of_row _ _ 2 _ _ _ hnew]; rfl
  have c0 := hB1.c0
  have c1 := hB1.c1
  have c2 := hB1.c2
  have c3 := hB1.c3
  have hav : a.val = .agg #[.int .i64 a.kind, .int .i64 a.at_, .slice a.A a.ks.length a.c, .int .u64 (a.p.keep : Int), .int .i64 a.p.torn, .int .i64 a.p.cut] := rfl
  rw [hav]
  have F12 := Lib.hid (And.intro f1 f2)
  have t0 : (a.kind == 0) = false := by simp [hk0]
  have t1 : (a.kind == 1) = false := by simp [hk0]
  have t2 : (a.kind == 2) = true := by simp [hk0]
  clear hk0
  rw [hd] at c3
  have HB := Lib.hid hB
  have HB1 := Lib.hid hB1
  have HK := Lib.hid hk
  have HH := Lib.hid hbb
  have HN := Lib.hid hnew
  have HA := Lib.hid ha
  clear hB hB1 hk hbb hnew ha hav
  clear hn hpn f1 f2
  go_enter Try.func26, Try.ntmps26
  go_wp2_with fail
  go_ret
  have hq := HH.out
  exact Rd.stay HB.out HK.out ⟨hq.os, hq.tape, hq.output, hq.size, hq.block⟩ F12.out.1 F12.out.2

set_option maxHeartbeats 1000000 in
set_option maxRecDepth 100000 in
theorem ref_fuse_up (w0 w : World) (R F : Nat → Prop) (x n : Nat) (s : St) (a : Ac) (h : Rd w0 w R F x n s) (hn : n ≤ 2048) (hpn : s.pn.length ≤ 1000000) (ha : a.Ok w0) (hk0 : a.kind = 2) (hd : s.dn = false) :
    Calls Try.prog 26 #[.pointer (some ⟨x, 0, none⟩), a.val] w fun e w' => RPost w0 w R F x n ({ s with fu := a.at_ }) 0 e w' := by
  obtain ⟨A, cS, P, cp, ps, hB, hk, f1, f2⟩ := h
  have hbb : Below w.heap.size w (w.alloc (.cells #[.int .i64 a.kind, .int .i64 a.at_, .slice a.A a.ks.length a.c, .int .u64 (a.p.keep : Int), .int .i64 a.p.torn, .int .i64 a.p.cut] 43)) := (Below.refl _ _).alloc (Nat.le_refl _) _
  have hB1 := hB.below hbb
  have hnew := heap_alloc_new w (.cells #[.int .i64 a.kind, .int .i64 a.at_, .slice a.A a.ks.length a.c, .int .u64 (a.p.keep : Int), .int .i64 a.p.torn, .int .i64 a.p.cut] 43)
  have e0 : (w.alloc (.cells #[.int .i64 a.kind, .int .i64 a.at_, .slice a.A a.ks.length a.c, .int .u64 (a.p.keep : Int), .int .i64 a.p.torn, .int .i64 a.p.cut] 43)).cell? ⟨w.heap.size, 0, none⟩ = some (.int .i64 a.kind) := by rw [cell_of_row _ _ 0 _ _ _ hnew]; rfl
  have e1 : (w.alloc (.cells #[.int .i64 a.kind, .int .i64 a.at_, .slice a.A a.ks.length a.c, .int .u64 (a.p.keep : Int), .int .i64 a.p.torn, .int .i64 a.p.cut] 43)).cell? ⟨w.heap.size, 1, none⟩ = some (.int .i64 a.at_) := by rw [cell_of_row _ _ 1 _ _ _ hnew]; rfl
  have e2 : (w.alloc (.cells #[.int .i64 a.kind, .int .i64 a.at_, .slice a.A a.ks.length a.c, .int .u64 (a.p.keep : Int), .int .i64 a.p.torn, .int .i64 a.p.cut] 43)).cell? ⟨w.heap.size, 2, none⟩ = some (.slice a.A a.ks.length a.c) := by rw [cell_of_row _ _ 2 _ _ _ hnew]; rfl
  have c0 := hB1.c0
  have c1 := hB1.c1
  have c2 := hB1.c2
  have c3 := hB1.c3
  have hav : a.val = .agg #[.int .i64 a.kind, .int .i64 a.at_, .slice a.A a.ks.length a.c, .int .u64 (a.p.keep : Int), .int .i64 a.p.torn, .int .i64 a.p.cut] := rfl
  rw [hav]
  have F12 := Lib.hid (And.intro f1 f2)
  have t0 : (a.kind == 0) = false := by simp [hk0]
  have t1 : (a.kind == 1) = false := by simp [hk0]
  have t2 : (a.kind == 2) = true := by simp [hk0]
  clear hk0
  have z2 := hB1.fz 2
  rw [hd] at c3
  have HDD := Lib.hid hd
  clear hd
  have HB := Lib.hid hB
  have HB1 := Lib.hid hB1
  have HK := Lib.hid hk
  have HH := Lib.hid hbb
  have HN := Lib.hid hnew
  have HA := Lib.hid ha
  clear hB hB1 hk hbb hnew ha hav
  clear hn hpn f1 f2
  go_enter Try.func26, Try.ntmps26
  go_wp2_with fail
  go_ret
  exact Rd.turn HB.out HK.out HH.out (One.set x 2 _ _) (by have := HB1.out; rw [HDD.out] at this; exact this.s2 a.at_) HA.out.at1 HA.out.at2 (by have := HDD.out; rw [← this])

set_option maxHeartbeats 1000000 in
set_option maxRecDepth 100000 in
theorem ref_other (w0 w : World) (R F : Nat → Prop) (x n : Nat) (s : St) (a : Ac) (h : Rd w0 w R F x n s) (hn : n ≤ 2048) (hpn : s.pn.length ≤ 1000000) (ha : a.Ok w0) (hk0 : a.kind ≠ 0 ∧ a.kind ≠ 1 ∧ a.kind ≠ 2 ∧ a.kind ≠ 3) :
    Calls Try.prog 26 #[.pointer (some ⟨x, 0, none⟩), a.val] w fun e w' => RPost w0 w R F x n (s) 0 e w' := by
  obtain ⟨A, cS, P, cp, ps, hB, hk, f1, f2⟩ := h
  have hbb : Below w.heap.size w (w.alloc (.cells #[.int .i64 a.kind, .int .i64 a.at_, .slice a.A a.ks.length a.c, .int .u64 (a.p.keep : Int), .int .i64 a.p.torn, .int .i64 a.p.cut] 43)) := (Below.refl _ _).alloc (Nat.le_refl _) _
  have hB1 := hB.below hbb
  have hnew := heap_alloc_new w (.cells #[.int .i64 a.kind, .int .i64 a.at_, .slice a.A a.ks.length a.c, .int .u64 (a.p.keep : Int), .int .i64 a.p.torn, .int .i64 a.p.cut] 43)
  have e0 : (w.alloc (.cells #[.int .i64 a.kind, .int .i64 a.at_, .slice a.A a.ks.length a.c, .int .u64 (a.p.keep : Int), .int .i64 a.p.torn, .int .i64 a.p.cut] 43)).cell? ⟨w.heap.size, 0, none⟩ = some (.int .i64 a.kind) := by rw [cell_of_row _ _ 0 _ _ _ hnew]; rfl
  have e1 : (w.alloc (.cells #[.int .i64 a.kind, .int .i64 a.at_, .slice a.A a.ks.length a.c, .int .u64 (a.p.keep : Int), .int .i64 a.p.torn, .int .i64 a.p.cut] 43)).cell? ⟨w.heap.size, 1, none⟩ = some (.int .i64 a.at_) := by rw [cell_of_row _ _ 1 _ _ _ hnew]; rfl
  have e2 : (w.alloc (.cells #[.int .i64 a.kind, .int .i64 a.at_, .slice a.A a.ks.length a.c, .int .u64 (a.p.keep : Int), .int .i64 a.p.torn, .int .i64 a.p.cut] 43)).cell? ⟨w.heap.size, 2, none⟩ = some (.slice a.A a.ks.length a.c) := by rw [cell_of_row _ _ 2 _ _ _ hnew]; rfl
  have c0 := hB1.c0
  have c1 := hB1.c1
  have c2 := hB1.c2
  have c3 := hB1.c3
  have hav : a.val = .agg #[.int .i64 a.kind, .int .i64 a.at_, .slice a.A a.ks.length a.c, .int .u64 (a.p.keep : Int), .int .i64 a.p.torn, .int .i64 a.p.cut] := rfl
  rw [hav]
  have F12 := Lib.hid (And.intro f1 f2)
  have t0 : (a.kind == 0) = false := by simp; omega
  have t1 : (a.kind == 1) = false := by simp; omega
  have t2 : (a.kind == 2) = false := by simp; omega
  have t3 : (a.kind == 3) = false := by simp; omega
  clear hk0
  have HB := Lib.hid hB
  have HB1 := Lib.hid hB1
  have HK := Lib.hid hk
  have HH := Lib.hid hbb
  have HN := Lib.hid hnew
  have HA := Lib.hid ha
  clear hB hB1 hk hbb hnew ha hav
  clear hn hpn f1 f2
  go_enter Try.func26, Try.ntmps26
  go_wp2_with fail
  go_ret
  have hq := HH.out
  exact Rd.stay HB.out HK.out ⟨hq.os, hq.tape, hq.output, hq.size, hq.block⟩ F12.out.1 F12.out.2

set_option maxHeartbeats 1000000 in
set_option maxRecDepth 100000 in
theorem ref_write_good (w0 w : World) (R F : Nat → Prop) (x n : Nat) (s : St) (a : Ac) (h : Rd w0 w R F x n s) (hn : n ≤ 2048) (hpn : s.pn.length ≤ 1000000) (ha : a.Ok w0) (hk0 : a.kind = 0) (hd : s.dn = false) (hr : 0 ≤ a.at_ ∧ a.at_ < n) (hl : a.ks.length = 64) (hbd : s.burnt.dn = false) :
    Calls Try.prog 26 #[.pointer (some ⟨x, 0, none⟩), a.val] w fun e w' => RPost w0 w R F x n (s.wrote a.at_.toNat a.ks) 0 e w' := by
  obtain ⟨A, cS, P, cp, ps, hB, hk, f1, f2⟩ := h
  have hbb : Below w.heap.size w (w.alloc (.cells #[.int .i64 a.kind, .int .i64 a.at_, .slice a.A a.ks.length a.c, .int .u64 (a.p.keep : Int), .int .i64 a.p.torn, .int .i64 a.p.cut] 43)) := (Below.refl _ _).alloc (Nat.le_refl _) _
  have hB1 := hB.below hbb
  have hnew := heap_alloc_new w (.cells #[.int .i64 a.kind, .int .i64 a.at_, .slice a.A a.ks.length a.c, .int .u64 (a.p.keep : Int), .int .i64 a.p.torn, .int .i64 a.p.cut] 43)
  have e0 : (w.alloc (.cells #[.int .i64 a.kind, .int .i64 a.at_, .slice a.A a.ks.length a.c, .int .u64 (a.p.keep : Int), .int .i64 a.p.torn, .int .i64 a.p.cut] 43)).cell? ⟨w.heap.size, 0, none⟩ = some (.int .i64 a.kind) := by rw [cell_of_row _ _ 0 _ _ _ hnew]; rfl
  have e1 : (w.alloc (.cells #[.int .i64 a.kind, .int .i64 a.at_, .slice a.A a.ks.length a.c, .int .u64 (a.p.keep : Int), .int .i64 a.p.torn, .int .i64 a.p.cut] 43)).cell? ⟨w.heap.size, 1, none⟩ = some (.int .i64 a.at_) := by rw [cell_of_row _ _ 1 _ _ _ hnew]; rfl
  have e2 : (w.alloc (.cells #[.int .i64 a.kind, .int .i64 a.at_, .slice a.A a.ks.length a.c, .int .u64 (a.p.keep : Int), .int .i64 a.p.torn, .int .i64 a.p.cut] 43)).cell? ⟨w.heap.size, 2, none⟩ = some (.slice a.A a.ks.length a.c) := by rw [cell_of_row _ _ 2 _ _ _ hnew]; rfl
  have c0 := hB1.c0
  have c1 := hB1.c1
  have c2 := hB1.c2
  have c3 := hB1.c3
  have hav : a.val = .agg #[.int .i64 a.kind, .int .i64 a.at_, .slice a.A a.ks.length a.c, .int .u64 (a.p.keep : Int), .int .i64 a.p.torn, .int .i64 a.p.cut] := rfl
  rw [hav]
  have F12 := Lib.hid (And.intro f1 f2)
  have HPN := Lib.hid (show ps.length ≤ 1000000 by have := hk.hpn; rw [this] at hpn; simpa [pnOf] using hpn)
  have HR := Lib.hid hr
  have HD := Lib.hid hbd
  clear hbd
  have t0 : (a.kind == 0) = true := by simp [hk0]
  clear hk0
  rw [hd] at c3
  have t9 : decide (a.at_ < 0) = false := by simp; omega
  have t10 : decide (a.at_ ≥ (n : Int)) = false := by simp; omega
  rw [hl] at hbb hB1 hnew e0 e1 e2 c0 c1 c2 c3 ⊢
  have HL := Lib.hid hl
  clear hr hl
  have HB := Lib.hid hB
  have HB1 := Lib.hid hB1
  have HK := Lib.hid hk
  have HH := Lib.hid hbb
  have HN := Lib.hid hnew
  have HA := Lib.hid ha
  clear hB hB1 hk hbb hnew ha hav
  clear hn hpn f1 f2
  go_enter Try.func26, Try.ntmps26
  go_wp2_with fail
  go_quiet (fail)
  go_wp2_with fail
  refine (ref_burn x _ _ s _ (HB1.out.drws _) F12.out.1 F12.out.2).mono ?_
  rintro e w2 ⟨rfl, hB2, hO2⟩
  rw [HD.out] at hB2 ⊢
  have HB2 := Lib.hid hB2
  have HO2 := Lib.hid hO2
  clear hB2 hO2
  go_wp2_with fail
  have hq := HH.out
  obtain ⟨wq, hwq⟩ : ∃ wq, wq = (w.alloc (.cells #[.int .i64 a.kind, .int .i64 a.at_, .slice a.A 64 a.c, .int .u64 (a.p.keep : Int), .int .i64 a.p.torn, .int .i64 a.p.cut] 43)).drewN nq := ⟨_, rfl⟩
  have hqq : Below w.heap.size w wq := by rw [hwq]; exact Below.drws hq nq
  have hk1 : Rk w0 wq R F x n s.sy s.nw s.pn A cS P cp ps := HK.out.below hqq
  have hBq : Blk wq x (.slice A n cS) (.slice P ps.length cp) s.fu s.dn := by rw [hwq]; exact HB1.out.drws nq
  have hnq : wq.heap[w.heap.size]? = some (.cells a.cells.toArray 43) := by
    have hce : (Obj.cells #[.int .i64 a.kind, .int .i64 a.at_, .slice a.A 64 a.c, .int .u64 (a.p.keep : Int), .int .i64 a.p.torn, .int .i64 a.p.cut] 43) = .cells a.cells.toArray 43 := by unfold Ac.cells; rw [HL.out]
    rw [hwq, ← hce]; exact HN.out
  have ho2 := HO2.out
  have hb2 := HB2.out
  have hd2 := HD.out
  rw [← hwq] at ho2
  clear hwq
  have hk2 := hk1.one hBq ho2
  have hxw : x < w.heap.size := HB.out.lt
  have hbox2 : w2.heap[w.heap.size]? = some (.cells a.cells.toArray 43) := (ho2.1.block _ (Array.getElem?_eq_some_iff.1 hnq).1 (by omega)).trans hnq
  have ha : w2.drew.cell? ⟨x, 1, none⟩ = some (.slice P ps.length cp) := hb2.c1
  have hbc : ∀ j u, a.cells[j]? = some u → w2.cell? ((⟨w.heap.size, 0, none⟩ : Addr).add j) = some u := fun j u hj => by
    rw [Addr.add_lit, Nat.zero_add, cell_of_row _ _ j _ _ _ hbox2]; simpa using hj
  have hld : (loadVar 43 ⟨w.heap.size, 0, none⟩).run Try.prog w2.drew = .ok a.val w2.drew := load_act hbc
  have hbs := build_acts a w2.drew
  have hb3 : Below w2.heap.size w2 (w2.drew.alloc (.cells a.cells.toArray 43)) := (Below.drw (Below.refl w2.heap.size w2)).alloc (Nat.le_refl _) _
  have hc := pw_cell_below hb3 ha
  have hld2 : (loadVar 43 ⟨w.heap.size, 0, none⟩).run Try.prog (w2.drew.alloc (.cells a.cells.toArray 43)) = .ok a.val (w2.drew.alloc (.cells a.cells.toArray 43)) := load_act fun j u hj => pw_cell_below hb3 (hbc j u hj)
  have hk3 := hk2.below hb3
  have hB3 := hb2.below hb3
  obtain ⟨v', w5, happ, o5, g5, hv5⟩ := append_acts hk3.own (a := ⟨w2.drew.heap.size, 0, none⟩) rfl a.one (fun j u hj => by
    rw [Addr.add_lit, Nat.zero_add, cell_of_row _ _ j _ _ _ (heap_alloc_new w2.drew _)]
    simpa using hj) HPN.out 34
  obtain ⟨A5, c5, rfl⟩ : ∃ A5 c5, v' = .slice A5 (ps.length + 1) c5 := by
    rcases o5.2 with ⟨e, h0⟩ | ⟨g, cap, cur, e, _⟩
    · omega
    · exact ⟨_, _, e⟩
  have hpx : (Value.slice P ps.length cp).ownBlock ≠ some x := fun e => by
    obtain ⟨cu, hcu⟩ := own_type hk3.own e
    exact type_ne hcu hB3 (by decide) rfl
  have hB5 : Blk w5 x (.slice A n cS) (.slice P ps.length cp) s.burnt.fu false := (g5.block x hB3.lt (fun e => hpx e.symm)).trans hB3
  have hcell5 := hB5.c1
  have hfro5 := hB5.fz 1
  have hBf := hB5.s1 (.slice A5 (ps.length + 1) c5)
  have hsw2 : w.heap.size ≤ w2.heap.size := by have := hqq.size; have := ho2.2; omega
  have hs5 : w2.heap.size ≤ w5.heap.size := by have := g5.size; simp at this; omega
  have hch : Chg F w (w5.setCell ⟨x, 1, none⟩ (.slice A5 (ps.length + 1) c5)) := by
    refine ⟨g5.os.trans (hb3.os.trans (ho2.1.os.trans hqq.os)), g5.tape.trans (hb3.tape.trans (ho2.1.tape.trans hqq.tape)), g5.output.trans (hb3.output.trans (ho2.1.output.trans hqq.output)), by simp; omega, fun i hi hf => ?_⟩
    have hix : i ≠ x := fun e => hf (by rw [e]; exact hk3.fx)
    have hiw : i < wq.heap.size := Nat.lt_of_lt_of_le hi hqq.size
    exact (Below.heap_setCell _ _ _ i hix).trans ((g5.block i (by have := hb3.size; omega) (fun e => hf (hk3.fP i e.symm))).trans ((hb3.block i (by omega)).trans ((ho2.1.block i hiw hix).trans (hqq.block i hi))))
  have hpn' : (s.wrote a.at_.toNat a.ks).pn = pnOf (ps ++ [a]) := by
    show s.pn ++ [(a.at_.toNat, a.ks)] = _
    rw [HK.out.hpn]; simp [pnOf]
  have hnw' : (s.wrote a.at_.toNat a.ks).nw = nowOf (s.wrote a.at_.toNat a.ks).pn (s.wrote a.at_.toNat a.ks).sy := by
    show put s.nw a.at_.toNat a.ks = nowOf (s.pn ++ [(a.at_.toNat, a.ks)]) s.burnt.sy
    rw [nowOf_snoc, St.burnt_sy, ← HK.out.hnw]
  have hbel5 := hch.below HK.out.bel HK.out.bel.size (fun i hi => (HK.out.finn i hi).1)
  have hRx : ∀ i, R i → ¬ F i ∧ w0.heap.size ≤ i ∧ i < w.heap.size := HK.out.rinn
  have hrw5 : Rw (w5.setCell ⟨x, 1, none⟩ (.slice A5 (ps.length + 1) c5)) R A n s.sy := HK.out.sl.rw'.chg hch (fun i hi e => (hRx i hi).1 e)
  have hfin : RPost w0 w R F x n (s.wrote a.at_.toNat a.ks) 0 (.returned (.int .i64 0)) (w5.setCell ⟨x, 1, none⟩ (.slice A5 (ps.length + 1) c5)) := by
    have hbf := burnt_fu F12.out.1 F12.out.2
    refine ⟨R, fun i => F i ∨ (w.heap.size ≤ i ∧ i < w5.heap.size), rfl, ⟨A, cS, A5, c5, ps ++ [a], ?_, ⟨⟨?_, HK.out.sl.nil⟩, ?_, hpn', hnw', ?_, .inl hk3.fx, ?_, ?_, ?_, hbel5⟩, hbf.1, hbf.2⟩, hch, fun i hi => hi.imp id (fun q => ⟨q.1, by simpa using q.2⟩), Ext.same _ _ _⟩
    · show Blk _ x _ _ s.burnt.fu s.burnt.dn
      rw [hd2, List.length_append]
      exact hBf
    · show Rw _ R A n s.burnt.sy
      rw [St.burnt_sy]
      exact hrw5
    · have o6 : (w5.setCell ⟨x, 1, none⟩ (.slice A5 (ps.length + 1) c5)).ownsRow 0 43 6 (.slice A5 (ps.length + 1) c5) (ps.length + 1) (acts ps ++ a.cells) := own_move o5 (fun g hg => Below.heap_setCell _ _ _ g (by
        obtain ⟨cu, hcu⟩ := own_type o5 hg
        exact type_ne hcu hB5 (by decide)))
      rw [show acts (ps ++ [a]) = acts ps ++ a.cells by simp [acts], List.length_append]
      exact o6
    · intro b hb
      rcases List.mem_append.1 hb with hb | hb
      · exact HK.out.pend b hb
      · rw [List.mem_singleton.1 hb]; exact ⟨HA.out, HR.out.1, HR.out.2, HL.out⟩
    · intro g hg
      rw [List.length_append] at hg
      rcases hv5 g hg with e | e
      · exact .inl (hk3.fP g e)
      · exact .inr ⟨by have := e.1; simp at this; omega, e.2⟩
    · intro i hi
      rcases hi with hi | hi
      · exact ⟨(HK.out.finn i hi).1, by have := (HK.out.finn i hi).2; simp; omega⟩
      · exact ⟨by have := HK.out.bel.size; omega, by simpa using hi.2⟩
    · intro i hi
      have := hRx i hi
      exact ⟨fun e => e.elim this.1 (fun q => by omega), this.2.1, by simp; omega⟩
  have HF := Lib.hid hfin
  obtain ⟨av, hav⟩ : ∃ av, av = a.val := ⟨_, rfl⟩
  rw [← hav] at hld hbs hld2
  have hi9 := Lib.hid hav
  clear hav hfin hrw5 hRx hbel5 hnw' hpn' hch hs5 hsw2 hBf hB5 hpx hv5 o5 g5 hB3 hk3 hb3 hbc hbox2 hk2 hk1 hBq hnq ho2 hb2 hd2 hqq hq hxw
  go_wp2
  refine start_ (n := 11) (S := fun w' => w'.cell? ⟨x, 1, none⟩ = some (.slice P ps.length cp) ∧ (loadVar 43 ⟨w.heap.size, 0, none⟩).run Try.prog w' = .ok av w') (ds := [7, 10]) #[false, false, false, false, false, false, false, false, false, false, false] (by kernel_rfl) rfl rfl ⟨ha, hld⟩ (fun hHeld => ?_)
  refine pure_ (i := 0) (N := some 33) (v := ?_) (a' := ?_) #[true, false, false, false, false, false, false, false, false, false, false] rfl rfl (by kernel_rfl) (fun _ _ _ h => h) (Or.inl ⟨by rfl, ?_⟩) ?_ ?_
  rotate_left
  · intro w'
    go_simp
    with_reducible rfl
  rotate_left
  · simp only [Act.put, List.setIfInBounds_toArray, List.set_cons_zero, List.set_cons_succ, i64_w, i32_w]
    rfl
  refine pure_ (i := 1) (N := some 34) (v := ?_) (a' := ?_) #[true, true, false, false, false, false, false, false, false, false, false] rfl rfl (by kernel_rfl) (fun _ _ _ h => h) (Or.inl ⟨by rfl, ?_⟩) ?_ ?_
  rotate_left
  · intro w'
    go_simp
    with_reducible rfl
  rotate_left
  · simp only [Act.put, List.setIfInBounds_toArray, List.set_cons_zero, List.set_cons_succ, i64_w, i32_w]
    rfl
  refine pure_ (i := 2) (N := some 35) (v := ?_) (a' := ?_) #[true, true, true, false, false, false, false, false, false, false, false] rfl rfl (by kernel_rfl) (fun _ _ _ h => h) (Or.inl ⟨by rfl, ?_⟩) ?_ ?_
  rotate_left
  · intro w'
    go_simp
    with_reducible rfl
  rotate_left
  · simp only [Act.put, List.setIfInBounds_toArray, List.set_cons_zero, List.set_cons_succ, i64_w, i32_w]
    rfl
  refine pure_ (i := 3) (N := some 36) (v := ?_) (a' := ?_) #[true, true, true, true, false, false, false, false, false, false, false] rfl rfl (by kernel_rfl) (fun _ _ _ h => h) (Or.inl ⟨by rfl, ?_⟩) ?_ ?_
  rotate_left
  · intro w'
    go_simp
    with_reducible rfl
  rotate_left
  · simp only [Act.put, List.setIfInBounds_toArray, List.set_cons_zero, List.set_cons_succ, i64_w, i32_w]
    rfl
  refine take_ (i := 4) (N := some 37) (v := ?_) (a' := ?_) #[true, true, true, true, true, false, false, false, false, false, false] rfl rfl (by kernel_rfl) (fun _ _ _ h => h) (Or.inl ⟨by rfl, ?_⟩) hHeld ?_ ?_
  rotate_left
  · rintro w' ⟨s0, s1⟩
    go_simp
    with_reducible rfl
  rotate_left
  · simp only [Act.put, List.setIfInBounds_toArray, List.set_cons_zero, List.set_cons_succ, i64_w, i32_w]
    rfl
  refine take_ (i := 5) (N := some 38) (v := ?_) (a' := ?_) #[true, true, true, true, true, true, false, false, false, false, false] rfl rfl (by kernel_rfl) (fun _ _ _ h => h) (Or.inl ⟨by rfl, ?_⟩) hHeld ?_ ?_
  rotate_left
  · rintro w' ⟨s0, s1⟩
    rw [exec_load 43 _ rfl _ (by rfl) _ s1]
  rotate_left
  · simp only [Act.put, List.setIfInBounds_toArray, List.set_cons_zero, List.set_cons_succ, i64_w, i32_w]
    rfl
  refine one_ (i := 6) (N := some 39) #[true, true, true, true, true, true, true, false, false, false, false] rfl rfl (by kernel_rfl) (by decide) (fun K hK => ?_)
  refine value_ (w1 := ?_) (v := ?_) (by rfl) rfl ?_ ?_
  rotate_left 2
  · rw [exec_bs rfl (by simp only [List.map_toArray, List.map_cons, List.map_nil]; rfl) hbs]
  refine hK.out _ _ ⟨hc, hld2⟩ (fun hHeld => ?_)
  clear hK K
  refine norm_ (a' := ?_) ?_ ?_
  rotate_left
  · show Act.put _ (some 39) _ = _
    simp only [Act.put, List.setIfInBounds_toArray, List.set_cons_zero, List.set_cons_succ, i64_w, i32_w]
    rfl
  refine last_ (i := 7) (N := some 40) #[true, true, true, true, true, true, true, true, false, false, false] rfl rfl (by kernel_rfl) (by decide) (fun K hK => ?_)
  refine value_ (w1 := ?_) (v := ?_) (by rfl) rfl ?_ ?_
  rotate_left 2
  · rw [exec_append rfl (by rfl) (by rfl) happ]
  refine hK.out _ _ ?_
  clear hK K
  refine norm_ (a' := ?_) ?_ ?_
  rotate_left
  · show Act.put _ (some 40) _ = _
    simp only [Act.put, List.setIfInBounds_toArray, List.set_cons_zero, List.set_cons_succ, i64_w, i32_w]
    rfl
  refine pure_ (i := 8) (N := some 41) (v := ?_) (a' := ?_) #[true, true, true, true, true, true, true, true, true, false, false] rfl rfl (by kernel_rfl) (fun _ _ _ h => h) (Or.inl ⟨by rfl, ?_⟩) ?_ ?_
  rotate_left
  · intro w'
    go_simp
    with_reducible rfl
  rotate_left
  · simp only [Act.put, List.setIfInBounds_toArray, List.set_cons_zero, List.set_cons_succ, i64_w, i32_w]
    rfl
  refine pure_ (i := 9) (N := some 42) (v := ?_) (a' := ?_) #[true, true, true, true, true, true, true, true, true, true, false] rfl rfl (by kernel_rfl) (fun _ _ _ h => h) (Or.inl ⟨by rfl, ?_⟩) ?_ ?_
  rotate_left
  · intro w'
    go_simp
    with_reducible rfl
  rotate_left
  · simp only [Act.put, List.setIfInBounds_toArray, List.set_cons_zero, List.set_cons_succ, i64_w, i32_w]
    rfl
  refine last_ (i := 10) (N := none) #[true, true, true, true, true, true, true, true, true, true, true] rfl rfl (by kernel_rfl) (by decide) (fun K hK => ?_)
  refine skip_ (w1 := ?_) (by rfl) rfl ?_ ?_
  rotate_left
  · go_simp
    rfl
  refine hK.out _ _ ?_
  clear hK K
  refine done_ (by kernel_rfl) ?_

  go_wp2
  go_ret
  exact HF.out

end Go.Proofs.Ytomihbanpjedeaa
