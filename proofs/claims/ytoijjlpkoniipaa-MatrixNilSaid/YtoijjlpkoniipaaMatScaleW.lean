/- Matrices: scale, the walk. -/
import Derived.Test.YtoijjlpkoniipaaMatScale
namespace Go.Proofs.Ytoijjlpkoniipaa
open Go.RowKit Go.Proofs.YtoijjlpkoniipaaW.PrintWords Go.Proofs.YtoijjlpkoniipaaW.PrintLast Gf Lin
set_option linter.unusedSimpArgs false
set_option maxHeartbeats 2000000 in
set_option maxRecDepth 100000 in
theorem wscale_calls {w : World} {g gt gm ga gs gb n c d : Nat} {p q : Nat → Nat} {M S : Lin.M} (h : Wk w g gt gm ga gs gb n c d p q M S) {i : Nat} (hi : i < n) (a : UInt8) :
    Calls Try.prog 79 #[.pointer (some ⟨g, 0, none⟩), .int .i64 (i : Int), .int .u8 (a.toNat : Int)] w fun e w' => e = .returned (.tuple #[]) ∧ Wk w' g gt gm ga gs gb n c d p q (scaleRow i a M) (scaleRow i a S) ∧ Chg (WF gm ga gs gb) w w' := by
  have hbo := both_calls h hi
  have H := Lib.hid h
  clear h
  go_enter Try.func79, Try.ntmps79
  go_wp2_with fail
  refine hbo.mono ?_
  clear hbo
  rintro e w1 ⟨rfl, hb1⟩
  have h1 := H.out.below hb1
  have hc0 : Chg (WF gm ga gs gb) w w1 := Chg.of_below hb1
  have H1 := Lib.hid h1
  have HC := Lib.hid hc0
  clear h1 hc0 hb1
  obtain ⟨o1, ho1⟩ : ∃ o1, o1 = p i * c := ⟨_, rfl⟩
  obtain ⟨o2, ho2⟩ : ∃ o2, o2 = q i * d := ⟨_, rfl⟩
  rw [← ho1, ← ho2]
  have HO1 := Lib.hid ho1
  have HO2 := Lib.hid ho2
  clear ho1 ho2
  go_wp2_with fail
  go_loopw [11] (fun x wr => ∃ k : Nat, k ≤ 2 ∧ x = .int .i64 k ∧ Wk wr g gt gm ga gs gb n c d p q (if k = 0 then M else scaleRow i a M) (if k ≤ 1 then S else scaleRow i a S) ∧ Chg (WF gm ga gs gb) w wr) (fun x _ => 2 - (intOf x).toNat)
  case atStart => exact ⟨0, by omega, rfl, by simpa using H1.out, HC.out⟩
  case round =>
    obtain ⟨k, hk, rfl, hw, hch⟩ := hrel
    by_cases hlt : k < 2
    · by_cases hk0 : k = 0
      · subst hk0
        have hw : Wk wr g gt gm ga gs gb n c d p q M S := by simpa using hw
        have hrow := hw.m.row (by have := hw.c1; omega) hi
        have hsc := scale_calls gt a (some ⟨ga, p i * c, none⟩) ((List.range c).map (M i)) c wr hw.tab hw.lt.1 (by simpa using hrow) (by simp) (by have := hw.c1; simp; omega)
        rw [show ((List.range c).map (M i)).length = c by simp, ← HO1.out] at hsc
        have c0 := hw.c0
        have HW := Lib.hid hw
        have HCH := Lib.hid hch
        have hix := index0 (some ⟨ga, o1, none⟩) (some ⟨gb, o2, none⟩) c c d d
        clear hrow hw hch hlt hk
        go_wp2_with fail
        refine hsc.mono ?_
        clear hsc
        rintro e w2 ⟨A', c', rfl, hc', hC, hb2⟩
        have hw2 := HW.out.below hb2
        obtain ⟨w3, hcp, hw3, hc3, hs3⟩ := hw2.copyM hi (cB := c') hC 3
        rw [← HO1.out] at hcp
        have hw4 : Wk w3 g gt gm ga gs gb n c d p q (scaleRow i a M) S := hw3.congr (fun x hx y hy => by
            unfold scaleRow
            by_cases hxi : x = i
            · rw [if_pos hxi, if_pos hxi, scl_row _ _ _ hy, hxi]
            · rw [if_neg hxi, if_neg hxi]) (fun _ _ _ _ => rfl)
        have hch4 : Chg (WF gm ga gs gb) w w3 := (HCH.out.trans (Chg.of_below (F := WF gm ga gs gb) hb2) (fun x hx => .inl hx)).trans hc3 (fun x hx => .inl hx)
        have HW4 := Lib.hid hw4
        have HC4 := Lib.hid hch4
        clear hw2 hw3 hc3 hs3 hw4 hch4 hb2 hC c0 hix
        go_wp2_with (at_builtin; refine wpList_copy_run rfl rfl rfl rfl hcp ?_)
        exact ⟨⟨1, by omega, by go_num, by simpa using HW4.out, HC4.out⟩, by simp [intOf]⟩
      · obtain rfl : k = 1 := by omega
        have hw : Wk wr g gt gm ga gs gb n c d p q (scaleRow i a M) S := by simpa using hw
        clear hk0
        have hrow := hw.s.row (by have := hw.d1; omega) hi
        have hsc := scale_calls gt a (some ⟨gb, q i * d, none⟩) ((List.range d).map (S i)) d wr hw.tab hw.lt.1 (by simpa using hrow) (by simp) (by have := hw.d1; simp; omega)
        rw [show ((List.range d).map (S i)).length = d by simp, ← HO2.out] at hsc
        have c0 := hw.c0
        have HW := Lib.hid hw
        have HCH := Lib.hid hch
        have hix := index1 (some ⟨ga, o1, none⟩) (some ⟨gb, o2, none⟩) c c d d
        clear hrow hw hch hlt hk
        go_wp2_with fail
        refine hsc.mono ?_
        clear hsc
        rintro e w2 ⟨A', c', rfl, hc', hC, hb2⟩
        have hw2 := HW.out.below hb2
        obtain ⟨w3, hcp, hw3, hc3, hs3⟩ := hw2.copyS hi (cB := c') hC 3
        rw [← HO2.out] at hcp
        have hw4 : Wk w3 g gt gm ga gs gb n c d p q (scaleRow i a M) (scaleRow i a S) := hw3.congr (fun _ _ _ _ => rfl) (fun x hx y hy => by
            unfold scaleRow
            by_cases hxi : x = i
            · rw [if_pos hxi, if_pos hxi, scl_row _ _ _ hy, hxi]
            · rw [if_neg hxi, if_neg hxi])
        have hch4 : Chg (WF gm ga gs gb) w w3 := (HCH.out.trans (Chg.of_below (F := WF gm ga gs gb) hb2) (fun x hx => .inl hx)).trans hc3 (fun x hx => .inl hx)
        have HW4 := Lib.hid hw4
        have HC4 := Lib.hid hch4
        clear hw2 hw3 hc3 hs3 hw4 hch4 hb2 hC c0 hix
        go_wp2_with (at_builtin; refine wpList_copy_run rfl rfl rfl rfl hcp ?_)
        exact ⟨⟨2, by omega, by go_num, by simpa using HW4.out, HC4.out⟩, by simp [intOf]⟩
    · obtain rfl : k = 2 := by omega
      have hw : Wk wr g gt gm ga gs gb n c d p q (scaleRow i a M) (scaleRow i a S) := by simpa using hw
      have HW := Lib.hid hw
      have HCH := Lib.hid hch
      clear hw hch hlt hk
      go_wp2_with fail
      go_end0
      exact ⟨rfl, HW.out, HCH.out⟩
end Go.Proofs.Ytoijjlpkoniipaa
