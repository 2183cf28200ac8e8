/- Two disks and the document's, side by side; plain laws of DiskAll. -/
import Derived.Test.YtomihbanpjedeaaLawSame
namespace Go.Proofs.Ytomihbanpjedeaa
open Go.RowKit
set_option linter.unusedSimpArgs false
theorem now_rd {w0 w : World} {R F : Nat → Prop} {x n : Nat} {s : St} (h : Rd w0 w R F x n s) (hn : n ≤ 2048) (hpn : s.pn.length ≤ 1000000) :
    Calls Try.prog 27 #[.pointer (some ⟨x, 0, none⟩)] w fun e w' => ∃ A' c', e = .returned (.slice A' n c') ∧ Rw w' (fun i => R i ∨ (w.heap.size ≤ i ∧ i < w'.heap.size)) A' n s.nw ∧ Below w.heap.size w w' := by
  obtain ⟨A, cS, P, cp, ps, h1, h2, h3, h4⟩ := h
  have hl : s.pn.length = ps.length := by rw [h2.hpn]; simp [pnOf]
  refine (now_calls w0 R x n ps.length cS cp A P s.fu s.dn s.sy ps w h1 h2.sl hn rfl (by omega) h2.own h2.pend h2.bel).mono ?_
  rintro e w' ⟨A', c', rfl, hsl, hb⟩
  have : s.nw = nowOf (pnOf ps) s.sy := by rw [h2.hnw, h2.hpn]
  rw [this]
  exact ⟨A', c', rfl, hsl.rw', hb⟩
theorem Dz.chg {w0 w w1 : World} {F G : Nat → Prop} {d n : Nat} {s : St} (h : Dz w0 w F d n s) (hg : Chg G w w1) (hF : ∀ i, F i → ¬ G i) (h3 : ∀ i, G i → w0.heap.size ≤ i) : Dz w0 w1 F d n s :=
  ⟨h.dk.chg hg hF, hg.below h.bel h.bel.size h3, fun i hi => ⟨(h.inn i hi).1, by have := (h.inn i hi).2; have := hg.size; omega⟩⟩
/-- Disk d1 in state s1, disk d2 in s2, the document's x in s3: apart; what is in Q is of none of them. -/
structure Tri (w0 w : World) (d1 d2 x n : Nat) (s1 s2 s3 : St) (F1 F2 F R Q : Nat → Prop) : Prop where
  a : Dz w0 w F1 d1 n s1
  b : Dz w0 w F2 d2 n s2
  c : Rd w0 w R F x n s3
  d12 : ∀ i, F1 i → ¬ F2 i
  d1x : ∀ i, F1 i → ¬ F i ∧ ¬ R i
  d2x : ∀ i, F2 i → ¬ F i ∧ ¬ R i
  q : ∀ i, Q i → ¬ F1 i ∧ ¬ F2 i ∧ ¬ F i ∧ i < w.heap.size
theorem Tri.below {w0 w w' : World} {d1 d2 x n : Nat} {s1 s2 s3 : St} {F1 F2 F R Q : Nat → Prop} (h : Tri w0 w d1 d2 x n s1 s2 s3 F1 F2 F R Q) (hb : Below w.heap.size w w') : Tri w0 w' d1 d2 x n s1 s2 s3 F1 F2 F R Q :=
  ⟨h.a.below hb, h.b.below hb, h.c.below hb, h.d12, h.d1x, h.d2x, fun i hi => ⟨(h.q i hi).1, (h.q i hi).2.1, (h.q i hi).2.2.1, by have := (h.q i hi).2.2.2; have := hb.size; omega⟩⟩
theorem Tri.stepA {w0 w w' : World} {d1 d2 x n : Nat} {s1 s2 s3 s' : St} {F1 F2 F R Q F' : Nat → Prop} (h : Tri w0 w d1 d2 x n s1 s2 s3 F1 F2 F R Q) (hz : Dz w0 w' F' d1 n s') (hc : Chg F1 w w') (he : Ext F1 F' w w') : Tri w0 w' d1 d2 x n s' s2 s3 F' F2 F R Q := by
  have h0 : ∀ i, F1 i → w0.heap.size ≤ i := fun i hi => (h.a.inn i hi).1
  refine ⟨hz, h.b.chg hc (fun i hi e => h.d12 i e hi) h0, h.c.chg hc (fun i hi e => (h.d1x i e).2 hi) (fun i hi e => (h.d1x i e).1 hi) h0, fun i hi => ?_, fun i hi => ?_, h.d2x, fun i hi => ?_⟩
  · rcases he i hi with e | e
    · exact h.d12 i e
    · intro q; have := (h.b.inn i q).2; omega
  · rcases he i hi with e | e
    · exact h.d1x i e
    · exact ⟨fun q => by have := (h.c.finn i q).2; omega, fun q => by have := (h.c.rinn i q).2.2; omega⟩
  · have hq := h.q i hi
    refine ⟨fun e => ?_, hq.2.1, hq.2.2.1, by have := hc.size; omega⟩
    rcases he i e with e | e
    · exact hq.1 e
    · omega
theorem Tri.stepB {w0 w w' : World} {d1 d2 x n : Nat} {s1 s2 s3 s' : St} {F1 F2 F R Q F' : Nat → Prop} (h : Tri w0 w d1 d2 x n s1 s2 s3 F1 F2 F R Q) (hz : Dz w0 w' F' d2 n s') (hc : Chg F2 w w') (he : Ext F2 F' w w') : Tri w0 w' d1 d2 x n s1 s' s3 F1 F' F R Q := by
  have h0 : ∀ i, F2 i → w0.heap.size ≤ i := fun i hi => (h.b.inn i hi).1
  refine ⟨h.a.chg hc h.d12 h0, hz, h.c.chg hc (fun i hi e => (h.d2x i e).2 hi) (fun i hi e => (h.d2x i e).1 hi) h0, fun i hi e => ?_, h.d1x, fun i hi => ?_, fun i hi => ?_⟩
  · rcases he i e with e | e
    · exact h.d12 i hi e
    · have := (h.a.inn i hi).2; omega
  · rcases he i hi with e | e
    · exact h.d2x i e
    · exact ⟨fun q => by have := (h.c.finn i q).2; omega, fun q => by have := (h.c.rinn i q).2.2; omega⟩
  · have hq := h.q i hi
    refine ⟨hq.1, fun e => ?_, hq.2.2.1, by have := hc.size; omega⟩
    rcases he i e with e | e
    · exact hq.2.1 e
    · omega
theorem Tri.stepC {w0 w w' : World} {d1 d2 x n : Nat} {s1 s2 s3 s' : St} {F1 F2 F R Q F' R' : Nat → Prop} (h : Tri w0 w d1 d2 x n s1 s2 s3 F1 F2 F R Q) (hz : Rd w0 w' R' F' x n s') (hc : Chg F w w') (he : Ext F F' w w') (hr : Ext R R' w w') : Tri w0 w' d1 d2 x n s1 s2 s' F1 F2 F' R' Q := by
  have h0 : ∀ i, F i → w0.heap.size ≤ i := fun i hi => (h.c.finn i hi).1
  refine ⟨h.a.chg hc (fun i hi => (h.d1x i hi).1) h0, h.b.chg hc (fun i hi => (h.d2x i hi).1) h0, hz, h.d12, fun i hi => ⟨fun e => ?_, fun e => ?_⟩, fun i hi => ⟨fun e => ?_, fun e => ?_⟩, fun i hi => ?_⟩
  · rcases he i e with e | e
    · exact (h.d1x i hi).1 e
    · have := (h.a.inn i hi).2; omega
  · rcases hr i e with e | e
    · exact (h.d1x i hi).2 e
    · have := (h.a.inn i hi).2; omega
  · rcases he i e with e | e
    · exact (h.d2x i hi).1 e
    · have := (h.b.inn i hi).2; omega
  · rcases hr i e with e | e
    · exact (h.d2x i hi).2 e
    · have := (h.b.inn i hi).2; omega
  · have hq := h.q i hi
    refine ⟨hq.1, hq.2.1, fun e => ?_, by have := hc.size; omega⟩
    rcases he i e with e | e
    · exact hq.2.2.1 e
    · omega
/-! ### Plain -/
theorem crashTo_all (p : Pl) {pn : List (Nat × List Value)} {xs : List Value} (hp : ∀ q ∈ pn, q.2.length = 64) (hl : ∀ i, p.left i = 64) : ∀ i, i ≤ pn.length → crashTo p pn xs i = nowTo pn xs i
  | 0, _ => rfl
  | i + 1, hi => by
    have hm : pn.getD i (0, []) ∈ pn := by simp [List.getD, List.getElem?_eq_getElem (show i < pn.length by omega)]
    show put _ _ _ = put _ _ _
    rw [crashTo_all p hp hl i (by omega), hl, List.take_of_length_le (by rw [hp _ hm]; omega)]
theorem put_none (xs : List Value) (k : Nat) : put xs k [] = xs := by unfold put; simp
theorem crashTo_none (p : Pl) {pn : List (Nat × List Value)} {xs : List Value} (hl : ∀ i, p.left i = 0) : ∀ i, crashTo p pn xs i = xs
  | 0 => rfl
  | i + 1 => by
    show put _ _ _ = _
    rw [hl, List.take_zero, put_none, crashTo_none p hl i]
def allP : Pl := ⟨18446744073709551615, -1, 0⟩
theorem allP_left (i : Nat) : allP.left i = 64 := by
  unfold Pl.left allP
  rw [if_neg (by simp only; omega)]
  have hlt : i % 64 < 64 := Nat.mod_lt _ (by decide)
  have : ∀ j, j < 64 → 18446744073709551615 / 2 ^ j % 2 = 1 := by decide
  simp only [this _ hlt]
theorem noneP_left (i : Nat) : noneP.left i = 0 := by
  unfold Pl.left noneP
  rw [if_neg (by simp only; omega)]
  simp
theorem Calm.act0 {s : St} (h : s.Calm) (n : Nat) (a : Int) (ks : List Value) (p : Pl) : (s.act n 0 a ks p).Calm ∧ (s.act n 0 a ks p).pn.length ≤ s.pn.length + 1 ∧ (s.act n 0 a ks p).sy = s.sy := by
  refine ⟨(h.act n 0 a ks p (.inl rfl)).1, (h.act n 0 a ks p (.inl rfl)).2, ?_⟩
  have e : s.act n 0 a ks p = s.write n a ks.length ks := rfl
  rw [e, h.write]
  split
  · simp only [St.wrote, h.burnt]
  · rfl
end Go.Proofs.Ytomihbanpjedeaa
