/- The disk: burn, Fuse, New. -/
import Derived.Test.YtomihbanpjedeaaDisk
namespace Go.Proofs.Ytomihbanpjedeaa
open Go.RowKit
set_option linter.unusedSimpArgs false

/-- The disk behind a store into one of its own cells. -/
theorem Dk.set {w : World} {F : Nat → Prop} {d n : Nat} {s : St} (h : Dk w F d n s) {i : Nat} {u : Value} {s' : St} (hi : i = 3 ∨ i = 4) (h1 : s'.sy = s.sy) (h2 : s'.nw = s.nw) (h3 : s'.pn = s.pn)
    (hu : (i = 3 ∧ u = .int .i64 s'.fu ∧ s'.dn = s.dn) ∨ (i = 4 ∧ u = .bool s'.dn ∧ s'.fu = s.fu)) (hb : -9223372036854775808 ≤ s'.fu ∧ s'.fu ≤ 9223372036854775807) : Dk (w.setCell ⟨d, i, none⟩ u) F d n s' := by
  obtain ⟨gs, gn, cs, cn, v, hd, o1, o2, o3, f0, f1, f2, f3, hne, hok⟩ := h
  have hblk : ∀ k, k ≠ d → (w.setCell ⟨d, i, none⟩ u).heap[k]? = w.heap[k]? := fun k hk => Below.heap_setCell w _ u k hk
  have kept : ∀ {v : Value} {e size k : Nat} {xs : List Value}, e ≠ 75 → w.ownsRow 0 e size v k xs → (w.setCell ⟨d, i, none⟩ u).ownsRow 0 e size v k xs := by
    intro v e size k xs he ho
    refine ⟨ho.1, ?_⟩
    rcases ho.2 with hn | ⟨g, cap, cur, rfl, hb, hgg, rest⟩
    · exact .inl hn
    · refine .inr ⟨g, cap, cur, rfl, hb, ?_, rest⟩
      rw [hblk g (fun e' => by subst e'; rw [hd] at hgg; simp at hgg; exact he hgg.2.symm)]
      exact hgg
  refine ⟨gs, gn, cs, cn, v, ?_, by rw [h1]; exact kept (by decide) o1, by rw [h2]; exact kept (by decide) o2, by rw [h3]; exact kept (by decide) o3, f0, f1, f2, f3, hne, ?_⟩
  · rw [heap_setCell_same w d i _ _ u hd]
    rcases hu with ⟨rfl, rfl, e⟩ | ⟨rfl, rfl, e⟩ <;> rw [e] <;> rfl
  · exact ⟨by rw [h1]; exact hok.sl, by rw [h2]; exact hok.nl, by rw [h1]; exact hok.sb, by rw [h2]; exact hok.nb, by rw [h3]; exact hok.pl, hb.1, hb.2⟩

/-- One thing more is done. -/
def St.burnt (s : St) : St := if s.fu = 0 then { s with dn := true } else if 0 < s.fu then { s with fu := s.fu - 1 } else s

set_option maxHeartbeats 1000000 in
theorem burn_calls (F : Nat → Prop) (d n : Nat) (s : St) (w : World) (h : Dk w F d n s) :
    Calls Try.prog 36 #[.pointer (some ⟨d, 0, none⟩)] w fun e w' => e = .returned (.bool (!s.burnt.dn)) ∧ Dk w' F d n s.burnt ∧ Chg F w w' := by
  obtain ⟨gs, gn, cs, cn, v, c0, c1, c2, c3, c4, _, hf⟩ := h.cells
  have hok : s.Ok n := by obtain ⟨_, _, _, _, _, _, _, _, _, _, _, _, _, _, hok⟩ := h; exact hok
  have hFd : F d := by obtain ⟨_, _, _, _, _, _, _, _, _, hF, _⟩ := h; exact hF
  by_cases h0 : s.fu = 0
  · have t0 : (s.fu == 0) = true := by simp [h0]
    have hs : s.burnt = { s with dn := true } := by unfold St.burnt; rw [if_pos h0]
    have hD : Dk (w.setCell ⟨d, 4, none⟩ (.bool true)) F d n s.burnt := h.set (.inr rfl) (by rw [hs]) (by rw [hs]) (by rw [hs]) (.inr ⟨rfl, by rw [hs], by rw [hs]⟩) (by rw [hs]; exact ⟨hok.f1, hok.f2⟩)
    have hc : Chg F w (w.setCell ⟨d, 4, none⟩ (.bool true)) := Chg.set hFd
    have hr : s.burnt.dn = true := by rw [hs]
    have H0 := Lib.hid h0
    clear h0 hs
    have f4 := hf 4
    go_enter Try.func36, Try.ntmps36
    go_wp2
    go_ret
    exact ⟨by rw [hr]; rfl, hD, hc⟩
  · have t0 : (s.fu == 0) = false := by simp [h0]
    by_cases h1 : 0 < s.fu
    · have t1 : decide (s.fu > 0) = true := by simp; omega
      have hs : s.burnt = { s with fu := s.fu - 1 } := by unfold St.burnt; rw [if_neg h0, if_pos h1]
      have hw : wrap64 (s.fu - 1) = s.fu - 1 := by have := hok.f1; have := hok.f2; unfold wrap64; omega
      have hD : Dk (w.setCell ⟨d, 3, none⟩ (.int .i64 (s.fu - 1))) F d n s.burnt := h.set (.inl rfl) (by rw [hs]) (by rw [hs]) (by rw [hs]) (.inl ⟨rfl, by rw [hs], by rw [hs]⟩) (by rw [hs]; have := hok.f1; have := hok.f2; simp; omega)
      have hc : Chg F w (w.setCell ⟨d, 3, none⟩ (.int .i64 (s.fu - 1))) := Chg.set hFd
      have hr : s.burnt.dn = s.dn := by rw [hs]
      have f3 := hf 3
      have H0 := Lib.hid h0
      have H1 := Lib.hid h1
      clear h0 h1 hs
      go_enter Try.func36, Try.ntmps36
      go_wp2
      go_ret
      exact ⟨by rw [hr]; rfl, hD, hc⟩
    · have t1 : decide (s.fu > 0) = false := by simp; omega
      have hs : s.burnt = s := by unfold St.burnt; rw [if_neg h0, if_neg h1]
      rw [hs]
      clear h0 h1 hs
      go_enter Try.func36, Try.ntmps36
      go_wp2
      go_ret
      exact ⟨rfl, h, Chg.refl _ _⟩
def St.fused (s : St) (a : Int) : St := if s.dn then s else { s with fu := a }
theorem fuse_calls (F : Nat → Prop) (d n : Nat) (s : St) (a : Int) (w : World) (h : Dk w F d n s) (ha : -9223372036854775808 ≤ a ∧ a ≤ 9223372036854775807) :
    Calls Try.prog 23 #[.pointer (some ⟨d, 0, none⟩), .int .i64 a] w fun e w' => e = .returned (.tuple #[]) ∧ Dk w' F d n (s.fused a) ∧ Chg F w w' := by
  obtain ⟨gs, gn, cs, cn, v, c0, c1, c2, c3, c4, _, hf⟩ := h.cells
  have hFd : F d := by obtain ⟨_, _, _, _, _, _, _, _, _, hF, _⟩ := h; exact hF
  cases hd : s.dn with
  | true =>
    have hs : s.fused a = s := by unfold St.fused; rw [hd]; rfl
    rw [hd] at c4
    rw [hs]
    go_enter Try.func23, Try.ntmps23
    go_wp2
    go_end0
    exact ⟨rfl, h, Chg.refl _ _⟩
  | false =>
    have hs : s.fused a = { s with fu := a } := by unfold St.fused; rw [hd]; rfl
    rw [hd] at c4
    have hD : Dk (w.setCell ⟨d, 3, none⟩ (.int .i64 a)) F d n (s.fused a) := h.set (.inl rfl) (by rw [hs]) (by rw [hs]) (by rw [hs]) (.inl ⟨rfl, by rw [hs], by rw [hs]⟩) (by rw [hs]; exact ha)
    have hc : Chg F w (w.setCell ⟨d, 3, none⟩ (.int .i64 a)) := Chg.set hFd
    have f3 := hf 3
    clear hs ha
    go_enter Try.func23, Try.ntmps23
    go_wp2
    go_end0
    exact ⟨rfl, hD, hc⟩
end Go.Proofs.Ytomihbanpjedeaa
