/- The document's disk: Do, whole. -/
import Derived.Test.YtomihbanpjedeaaRefDo
namespace Go.Proofs.Ytomihbanpjedeaa
open Go.RowKit Go.Proofs.YtomihbanpjedeaaW.PrintLast
set_option linter.unusedSimpArgs false
/-- An act that lays the sectors anew: nothing is pending behind it. -/
theorem Rd.anew {w0 w w5 : World} {R F : Nat → Prop} {x n : Nat} {s : St} {A P A' : Option Addr} {cS cp c' : Nat} {ps : List Ac} {s' : St} (hB : Blk w x (.slice A n cS) (.slice P ps.length cp) s.fu s.dn) (hk : Rk w0 w R F x n s.sy s.nw s.pn A cS P cp ps) {R2 : Nat → Prop} (h5 : Blk w5 x (.slice A' n c') (.slice none 0 0) s'.fu s'.dn)
    (hsl : Sl w5 R2 A' n c' s'.sy) (hR2 : ∀ i, R2 i → R i ∨ (w.heap.size ≤ i ∧ i < w5.heap.size)) (hpn : s'.pn = []) (hnw : s'.nw = s'.sy) (hf1 : -9223372036854775808 ≤ s'.fu) (hf2 : s'.fu ≤ 9223372036854775807) (hch : Chg (fun i => i = x) w w5) {ev : Int} : RPost w0 w R F x n s' ev (.returned (.int .i64 ev)) w5 := by
  have hxw := hB.lt
  have hfx := hk.fx
  have hF := hk.finn
  have hRn := hk.rinn
  have hw0 := hk.bel.size
  have hsz := hch.size
  have hch2 : Chg F w w5 := ⟨hch.os, hch.tape, hch.output, hch.size, fun i hi hf => hch.block i hi (fun e => hf (by rw [e]; exact hfx))⟩
  refine ⟨fun i => R i ∨ (w.heap.size ≤ i ∧ i < w5.heap.size), F, rfl, ⟨A', c', none, 0, [], h5, ⟨⟨hsl.rw'.mono hR2, hsl.nil⟩, World.ownsRow_nil _ _ _ _, by rw [hpn]; rfl, by rw [hpn, hnw]; rfl, (fun a ha => by cases ha), hfx, (fun g hg => by simp [Value.ownBlock] at hg), fun i hi => ⟨(hF i hi).1, by have := (hF i hi).2; omega⟩, fun i hi => ?_, hch2.below hk.bel hw0 (fun i hi => (hF i hi).1)⟩, hf1, hf2⟩, hch2, Ext.same _ _ _, fun i hi => hi⟩
  rcases hi with hi | hi
  · exact ⟨(hRn i hi).1, (hRn i hi).2.1, by have := (hRn i hi).2.2; omega⟩
  · exact ⟨fun e => by have := (hF i e).2; omega, by omega, hi.2⟩

set_option maxHeartbeats 1000000 in
set_option maxRecDepth 100000 in
theorem ref_sync_good (w0 w : World) (R F : Nat → Prop) (x n : Nat) (s : St) (a : Ac) (h : Rd w0 w R F x n s) (hn : n ≤ 2048) (hpn : s.pn.length ≤ 1000000) (ha : a.Ok w0) (hk0 : a.kind = 1) (hd : s.dn = false) (hbd : s.burnt.dn = false) :
    Calls Try.prog 26 #[.pointer (some ⟨x, 0, none⟩), a.val] w fun e w' => RPost w0 w R F x n (s.sync) 0 e w' := by
  obtain ⟨A, cS, P, cp, ps, hB, hk, f1, f2⟩ := h
  have hbb : Below w.heap.size w (w.alloc (.cells #[.int .i64 a.kind, .int .i64 a.at_, .slice a.A a.ks.length a.c, .int .u64 (a.p.keep : Int), .int .i64 a.p.torn, .int .i64 a.p.cut] 43)) := (Below.refl _ _).alloc (Nat.le_refl _) _
  have hB1 := hB.below hbb
  have hnew := heap_alloc_new w (.cells #[.int .i64 a.kind, .int .i64 a.at_, .slice a.A a.ks.length a.c, .int .u64 (a.p.keep : Int), .int .i64 a.p.torn, .int .i64 a.p.cut] 43)
  have e0 : (w.alloc (.cells #[.int .i64 a.kind, .int .i64 a.at_, .slice a.A a.ks.length a.c, .int .u64 (a.p.keep : Int), .int .i64 a.p.torn, .int .i64 a.p.cut] 43)).cell? ⟨w.heap.size, 0, none⟩ = some (.int .i64 a.kind) := by rw [cell_of_row _ _ 0 _ _ _ hnew]; rfl
  have e1 : (w.alloc (.cells #[.int .i64 a.kind, .int .i64 a.at_, .slice a.A a.ks.length a.c, .int .u64 (a.p.keep : Int), .int .i64 a.p.torn, .int .i64 a.p.cut] 43)).cell? ⟨w.heap.size, 1, none⟩ = some (.int .i64 a.at_) := by rw [cell_of_row _ _ 1 _ _ _ hnew]; rfl
  have e2 : (w.alloc (.cells #[.int .i64 a.kind, .int .i64 a.at_, .slice a.A a.ks.length a.c, .int .u64 (a.p.keep : Int), .int .i64 a.p.torn, .int .i64 a.p.cut] 43)).cell? ⟨w.heap.size, 2, none⟩ = some (.slice a.A a.ks.length a.c) := by rw [cell_of_row _ _ 2 _ _ _ hnew]; rfl
  have c0 := hB1.c0
  have c1 := hB1.c1
  have c2 := hB1.c2
  have c3 := hB1.c3
  have hav : a.val = .agg #[.int .i64 a.kind, .int .i64 a.at_, .slice a.A a.ks.length a.c, .int .u64 (a.p.keep : Int), .int .i64 a.p.torn, .int .i64 a.p.cut] := rfl
  rw [hav]
  have F12 := Lib.hid (And.intro f1 f2)
  have HPN := Lib.hid (show ps.length ≤ 1000000 by have := hk.hpn; rw [this] at hpn; simpa [pnOf] using hpn)
  have HNN := Lib.hid hn
  have HD := Lib.hid hbd
  clear hbd
  have t0 : (a.kind == 0) = false := by simp [hk0]
  have t1 : (a.kind == 1) = true := by simp [hk0]
  clear hk0
  have HD0 := Lib.hid hd
  rw [hd] at c3
  have HB := Lib.hid hB
  have HB1 := Lib.hid hB1
  have HK := Lib.hid hk
  have HH := Lib.hid hbb
  have HN := Lib.hid hnew
  have HA := Lib.hid ha
  clear hB hB1 hk hbb hnew ha hav
  clear hn hpn f1 f2
  clear hd
  go_enter Try.func26, Try.ntmps26
  go_wp2_with fail
  refine (ref_burn x _ _ s _ HB1.out F12.out.1 F12.out.2).mono ?_
  rintro e w2 ⟨rfl, hB2, hO2⟩
  rw [HD.out] at hB2 ⊢
  have HB2 := Lib.hid hB2
  have HO2 := Lib.hid hO2
  clear hB2 hO2
  go_wp2_with fail
  have hk1 := HK.out.below HH.out
  have hk2 := hk1.one HB1.out HO2.out
  have hb2 := HB2.out
  have hnow := now_calls w0 R x n ps.length cS cp A P s.burnt.fu false s.sy ps w2 hb2 hk2.sl HNN.out rfl HPN.out hk2.own hk2.pend hk2.bel
  have HK2 := Lib.hid hk2
  clear hk1 hk2 hb2
  refine hnow.mono ?_
  clear hnow
  rintro e w3 ⟨A', c', rfl, hsl, hb3⟩
  have hb2 := HB2.out
  have hB3 := hb2.below hb3
  have hB4 := hB3.s0 (.slice A' n c')
  have hB5 := hB4.s1 (.slice none 0 0)
  have y0 := hB3.c0
  have z0 := hB3.fz 0
  have y1 := hB4.c1
  have z1 := hB4.fz 1
  have ho2 := HO2.out
  have hbb := HH.out
  have hxw : x < w.heap.size := HB.out.lt
  have hd2 := HD.out
  have hsy : s.sync = { s.burnt with sy := s.nw, pn := [] } := by unfold St.sync; rw [HD0.out, hd2]; rfl
  have hone : One x w3 ((w3.setCell ⟨x, 0, none⟩ (.slice A' n c')).setCell ⟨x, 1, none⟩ (.slice none 0 0)) := (One.set x 0 _ w3).trans (One.set x 1 _ _)
  have hch : Chg (fun i => i = x) w ((w3.setCell ⟨x, 0, none⟩ (.slice A' n c')).setCell ⟨x, 1, none⟩ (.slice none 0 0)) :=
    (((Chg.of_below hbb).trans ho2.1 (fun i hi => .inl hi)).trans (Chg.of_below hb3) (fun i hi => .inl hi)).trans hone.1 (fun i hi => .inl hi)
  have hRx : ∀ i, R i → ¬ F i ∧ w0.heap.size ≤ i ∧ i < w.heap.size := HK.out.rinn
  have hsw : w.heap.size ≤ w2.heap.size := by have := hbb.size; have := ho2.2; omega
  have hrw := hsl.rw'.chg hone.1 (fun i hi e => by
    rcases hi with hi | hi
    · exact (hRx i hi).1 (by rw [e]; exact HK.out.fx)
    · omega)
  have hbf := burnt_fu F12.out.1 F12.out.2
  have hnwo : nowOf (pnOf ps) s.sy = s.nw := by rw [HK.out.hnw, HK.out.hpn]
  rw [hnwo] at hrw
  have hfin : RPost w0 w R F x n s.sync 0 (.returned (.int .i64 0)) ((w3.setCell ⟨x, 0, none⟩ (.slice A' n c')).setCell ⟨x, 1, none⟩ (.slice none 0 0)) :=
    Rd.anew (R2 := fun i => R i ∨ (w2.heap.size ≤ i ∧ i < w3.heap.size)) HB.out HK.out (by rw [hsy]; show Blk _ x _ _ s.burnt.fu s.burnt.dn; rw [hd2]; exact hB5) (by rw [hsy]; exact ⟨hrw, hsl.nil⟩) (fun i hi => hi.imp id (fun q => ⟨by omega, by simpa using q.2⟩)) (by rw [hsy]) (by rw [hsy]; exact St.burnt_nw s) (by rw [hsy]; exact hbf.1) (by rw [hsy]; exact hbf.2) hch
  have HFI := Lib.hid hfin
  clear hb2 hB3 hB4 hB5 ho2 hbb hd2 hsy hone hch hRx hsw hrw hbf hnwo hfin hsl hb3
  go_wp2_with fail
  go_ret
  exact HFI.out

set_option maxHeartbeats 1000000 in
set_option maxRecDepth 100000 in
theorem ref_crash_do (w0 w : World) (R F : Nat → Prop) (x n : Nat) (s : St) (a : Ac) (h : Rd w0 w R F x n s) (hn : n ≤ 2048) (hpn : s.pn.length ≤ 1000000) (ha : a.Ok w0) (hk0 : a.kind = 3) :
    Calls Try.prog 26 #[.pointer (some ⟨x, 0, none⟩), a.val] w fun e w' => RPost w0 w R F x n (s.crash a.p) 0 e w' := by
  obtain ⟨A, cS, P, cp, ps, hB, hk, f1, f2⟩ := h
  have hbb : Below w.heap.size w (w.alloc (.cells #[.int .i64 a.kind, .int .i64 a.at_, .slice a.A a.ks.length a.c, .int .u64 (a.p.keep : Int), .int .i64 a.p.torn, .int .i64 a.p.cut] 43)) := (Below.refl _ _).alloc (Nat.le_refl _) _
  have hB1 := hB.below hbb
  have hnew := heap_alloc_new w (.cells #[.int .i64 a.kind, .int .i64 a.at_, .slice a.A a.ks.length a.c, .int .u64 (a.p.keep : Int), .int .i64 a.p.torn, .int .i64 a.p.cut] 43)
  have e0 : (w.alloc (.cells #[.int .i64 a.kind, .int .i64 a.at_, .slice a.A a.ks.length a.c, .int .u64 (a.p.keep : Int), .int .i64 a.p.torn, .int .i64 a.p.cut] 43)).cell? ⟨w.heap.size, 0, none⟩ = some (.int .i64 a.kind) := by rw [cell_of_row _ _ 0 _ _ _ hnew]; rfl
  have e1 : (w.alloc (.cells #[.int .i64 a.kind, .int .i64 a.at_, .slice a.A a.ks.length a.c, .int .u64 (a.p.keep : Int), .int .i64 a.p.torn, .int .i64 a.p.cut] 43)).cell? ⟨w.heap.size, 1, none⟩ = some (.int .i64 a.at_) := by rw [cell_of_row _ _ 1 _ _ _ hnew]; rfl
  have e2 : (w.alloc (.cells #[.int .i64 a.kind, .int .i64 a.at_, .slice a.A a.ks.length a.c, .int .u64 (a.p.keep : Int), .int .i64 a.p.torn, .int .i64 a.p.cut] 43)).cell? ⟨w.heap.size, 2, none⟩ = some (.slice a.A a.ks.length a.c) := by rw [cell_of_row _ _ 2 _ _ _ hnew]; rfl
  have c0 := hB1.c0
  have c1 := hB1.c1
  have c2 := hB1.c2
  have c3 := hB1.c3
  have hav : a.val = .agg #[.int .i64 a.kind, .int .i64 a.at_, .slice a.A a.ks.length a.c, .int .u64 (a.p.keep : Int), .int .i64 a.p.torn, .int .i64 a.p.cut] := rfl
  rw [hav]
  have F12 := Lib.hid (And.intro f1 f2)
  have HPN := Lib.hid (show ps.length ≤ 1000000 by have := hk.hpn; rw [this] at hpn; simpa [pnOf] using hpn)
  have HNN := Lib.hid hn
  have t0 : (a.kind == 0) = false := by simp [hk0]
  have t1 : (a.kind == 1) = false := by simp [hk0]
  have t2 : (a.kind == 2) = false := by simp [hk0]
  have t3 : (a.kind == 3) = true := by simp [hk0]
  clear hk0
  have HB := Lib.hid hB
  have HB1 := Lib.hid hB1
  have HK := Lib.hid hk
  have HH := Lib.hid hbb
  have HN := Lib.hid hnew
  have HA := Lib.hid ha
  clear hB hB1 hk hbb hnew ha hav
  clear hn hpn f1 f2
  go_enter Try.func26, Try.ntmps26
  go_wp2_with fail
  have hk1 := HK.out.below HH.out
  have hb1 := HB1.out
  have hcr := ref_crash w0 R x n ps.length cS cp A P s.fu s.dn s.sy ps a.p _ hb1 hk1.sl HNN.out rfl HPN.out hk1.own hk1.pend hk1.bel (hk1.finn x hk1.fx).1 (fun i hi e => (hk1.rinn i hi).1 (by rw [e]; exact hk1.fx)) HA.out.keep
  rw [show a.p.val = .agg #[.int .u64 (a.p.keep : Int), .int .i64 a.p.torn, .int .i64 a.p.cut] from rfl] at hcr
  clear hk1 hb1
  refine hcr.mono ?_
  clear hcr
  rintro e w3 ⟨A', c', rfl, hB3, hsl, hch⟩
  have hlen : s.pn.length = ps.length := by rw [HK.out.hpn]; simp [pnOf]
  have hss : (s.crash a.p).sy = crashTo a.p (pnOf ps) s.sy ps.length := by show crashTo a.p s.pn s.sy s.pn.length = _; rw [hlen, HK.out.hpn]
  rw [← hss] at hsl
  have hbb := HH.out
  have hchw : Chg (fun i => i = x) w w3 := (Chg.of_below hbb).trans hch (fun i hi => .inl hi)
  have hfin : RPost w0 w R F x n (s.crash a.p) 0 (.returned (.int .i64 0)) w3 :=
    Rd.anew HB.out HK.out hB3 hsl (fun i hi => hi.imp id (fun q => ⟨by have := hbb.size; omega, q.2⟩)) rfl rfl (by show (-9223372036854775808 : Int) ≤ -1; decide) (by show (-1 : Int) ≤ 9223372036854775807; decide) hchw
  have HFI := Lib.hid hfin
  clear hbb hchw hfin hss hlen hsl hch hB3
  go_wp2_with fail
  go_ret
  exact HFI.out

/-- Do: each act answers, and leaves, what the disk's does. -/
theorem do_ref (w0 w : World) (R F : Nat → Prop) (x n : Nat) (s : St) (a : Ac) (h : Rd w0 w R F x n s) (hn : n ≤ 2048) (hpn : s.pn.length ≤ 1000000) (ha : a.Ok w0) :
    Calls Try.prog 26 #[.pointer (some ⟨x, 0, none⟩), a.val] w fun e w' => RPost w0 w R F x n (s.act n a.kind a.at_ a.ks a.p) (s.actE n a.kind a.at_ a.ks.length) e w' := by
  by_cases k0 : a.kind = 0
  · have e1 : s.act n a.kind a.at_ a.ks a.p = s.write n a.at_ a.ks.length a.ks := by rw [k0]; rfl
    have e2 : s.actE n a.kind a.at_ a.ks.length = s.writeE n a.at_ a.ks.length := by rw [k0]; rfl
    rw [e1, e2]
    by_cases hd : s.dn = true
    · skip
      rw [show s.write n a.at_ a.ks.length a.ks = s by unfold St.write; rw [if_pos hd], show s.writeE n a.at_ a.ks.length = 13 by unfold St.writeE; rw [if_pos hd]]
      exact ref_write_down w0 w R F x n s a h hn hpn ha k0 hd
    · have hd' : s.dn = false := by simpa using hd
      by_cases hr : 0 ≤ a.at_ ∧ a.at_ < n
      · have hr' : ¬ ¬ (0 ≤ a.at_ ∧ a.at_ < (n : Int)) := fun q => q hr
        by_cases hl : a.ks.length = 64
        · have hl' : ¬ a.ks.length ≠ 64 := fun q => q hl
          by_cases hb : s.burnt.dn = true
          · skip
            rw [show s.write n a.at_ a.ks.length a.ks = s.burnt by unfold St.write; rw [if_neg hd, if_neg hr', if_neg hl', if_pos hb], show s.writeE n a.at_ a.ks.length = 13 by unfold St.writeE; rw [if_neg hd, if_neg hr', if_neg hl', if_pos hb]]
            exact ref_write_burn w0 w R F x n s a h hn hpn ha k0 hd' hr hl hb
          · skip
            rw [show s.write n a.at_ a.ks.length a.ks = s.wrote a.at_.toNat a.ks by unfold St.write; rw [if_neg hd, if_neg hr', if_neg hl', if_neg hb], show s.writeE n a.at_ a.ks.length = 0 by unfold St.writeE; rw [if_neg hd, if_neg hr', if_neg hl', if_neg hb]]
            exact ref_write_good w0 w R F x n s a h hn hpn ha k0 hd' hr hl (by simpa using hb)
        · skip
          rw [show s.write n a.at_ a.ks.length a.ks = s by unfold St.write; rw [if_neg hd, if_neg hr', if_pos hl], show s.writeE n a.at_ a.ks.length = 14 by unfold St.writeE; rw [if_neg hd, if_neg hr', if_pos hl]]
          exact ref_write_arg w0 w R F x n s a h hn hpn ha k0 hd' hr hl
      · rw [show s.write n a.at_ a.ks.length a.ks = s by unfold St.write; rw [if_neg hd, if_pos hr], show s.writeE n a.at_ a.ks.length = 3 by unfold St.writeE; rw [if_neg hd, if_pos hr]]
        by_cases h0 : a.at_ < 0
        · exact ref_write_low w0 w R F x n s a h hn hpn ha k0 hd' h0
        · exact ref_write_high w0 w R F x n s a h hn hpn ha k0 hd' (by omega)
  · by_cases k1 : a.kind = 1
    · have e1 : s.act n a.kind a.at_ a.ks a.p = s.sync := by rw [k1]; rfl
      have e2 : s.actE n a.kind a.at_ a.ks.length = s.syncE := by rw [k1]; rfl
      rw [e1, e2]
      by_cases hd : s.dn = true
      · rw [show s.sync = s by unfold St.sync; rw [if_pos hd], show s.syncE = 13 by unfold St.syncE; rw [if_pos hd]]
        exact ref_sync_down w0 w R F x n s a h hn hpn ha k1 hd
      · have hd' : s.dn = false := by simpa using hd
        by_cases hb : s.burnt.dn = true
        · rw [show s.sync = s.burnt by unfold St.sync; rw [if_neg hd, if_pos hb], show s.syncE = 13 by unfold St.syncE; rw [if_neg hd, if_pos hb]]
          exact ref_sync_burn w0 w R F x n s a h hn hpn ha k1 hd' hb
        · rw [show s.syncE = 0 by unfold St.syncE; rw [if_neg hd, if_neg hb]]
          exact ref_sync_good w0 w R F x n s a h hn hpn ha k1 hd' (by simpa using hb)
    · have e2 : s.actE n a.kind a.at_ a.ks.length = 0 := by unfold St.actE; rw [if_neg k0, if_neg k1]
      rw [e2]
      by_cases k2 : a.kind = 2
      · have e1 : s.act n a.kind a.at_ a.ks a.p = s.fused a.at_ := by rw [k2]; rfl
        rw [e1]
        unfold St.fused
        by_cases hd : s.dn = true
        · rw [if_pos hd]
          exact ref_fuse_down w0 w R F x n s a h hn hpn ha k2 hd
        · rw [if_neg hd]
          exact ref_fuse_up w0 w R F x n s a h hn hpn ha k2 (by simpa using hd)
      · by_cases k3 : a.kind = 3
        · have e1 : s.act n a.kind a.at_ a.ks a.p = s.crash a.p := by rw [k3]; rfl
          rw [e1]
          exact ref_crash_do w0 w R F x n s a h hn hpn ha k3
        · have e1 : s.act n a.kind a.at_ a.ks a.p = s := by unfold St.act; rw [if_neg k0, if_neg k1, if_neg k2, if_neg k3]
          rw [e1]
          exact ref_other w0 w R F x n s a h hn hpn ha ⟨k0, k1, k2, k3⟩

end Go.Proofs.Ytomihbanpjedeaa
