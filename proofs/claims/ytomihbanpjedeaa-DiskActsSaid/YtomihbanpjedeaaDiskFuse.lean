/- The law DiskFuse, whatever comes in. -/
import Derived.Test.YtomihbanpjedeaaDiskSynced
namespace Go.Proofs.Ytomihbanpjedeaa
open Go.RowKit
set_option linter.unusedSimpArgs false
/-! ### Plain -/
structure St.Fus (s : St) (done f : Int) : Prop where
  pos : 0 ≤ s.fu
  sum : s.fu + done = f
  dn : s.dn = true → s.fu = 0
theorem fus_act {s : St} {done f : Int} (h : s.Fus done f) (n : Nat) (kind a : Int) (ks : List Value) (p : Pl) (hk : kind = 0 ∨ kind = 1) :
    (s.act n kind a ks p).pn.length ≤ s.pn.length + 1 ∧
    ((s.actE n kind a ks.length = 0 ∧ (s.act n kind a ks p).Fus (done + 1) f ∧ (s.act n kind a ks p).dn = false) ∨
     (s.actE n kind a ks.length = 13 ∧ (s.act n kind a ks p).Fus done f ∧ (s.act n kind a ks p).dn = true ∧ (s.act n kind a ks p).nw = s.nw) ∨
     ((s.actE n kind a ks.length = 3 ∨ s.actE n kind a ks.length = 14) ∧ (s.act n kind a ks p).Fus done f ∧ (s.act n kind a ks p).nw = s.nw)) := by
  obtain ⟨sy, nw, pn, fu, dn⟩ := s
  obtain ⟨h1, h2, h3⟩ := h
  simp only at h1 h2 h3
  rcases hk with rfl | rfl
  · show (St.write _ n a ks.length ks).pn.length ≤ _ ∧ ((St.writeE _ n a ks.length = 0 ∧ (St.write _ n a ks.length ks).Fus _ f ∧ (St.write _ n a ks.length ks).dn = false) ∨ (St.writeE _ n a ks.length = 13 ∧ (St.write _ n a ks.length ks).Fus _ f ∧ (St.write _ n a ks.length ks).dn = true ∧ (St.write _ n a ks.length ks).nw = nw) ∨ ((St.writeE _ n a ks.length = 3 ∨ St.writeE _ n a ks.length = 14) ∧ (St.write _ n a ks.length ks).Fus _ f ∧ (St.write _ n a ks.length ks).nw = nw))
    unfold St.write St.writeE
    cases dn with
    | true => exact ⟨by simp, .inr (.inl ⟨rfl, ⟨h1, h2, h3⟩, rfl, rfl⟩)⟩
    | false =>
      by_cases c1 : 0 ≤ a ∧ a < n
      · by_cases c2 : ks.length = 64
        · rcases Int.lt_or_eq_of_le h1 with c3 | c3
          · have hb : St.burnt ⟨sy, nw, pn, fu, false⟩ = ⟨sy, nw, pn, fu - 1, false⟩ := by unfold St.burnt; rw [if_neg (by simp only; omega), if_pos (by simp only; omega)]
            simp only [hb, Bool.false_eq_true, if_false, c1, not_true, c2, ne_eq, and_self, St.wrote]
            exact ⟨by simp, .inl ⟨trivial, ⟨by simp only; omega, by simp only; omega, fun h => by cases h⟩, trivial⟩⟩
          · subst c3
            have hb : St.burnt ⟨sy, nw, pn, 0, false⟩ = ⟨sy, nw, pn, 0, true⟩ := rfl
            simp only [hb, Bool.false_eq_true, if_false, c1, not_true, c2, ne_eq, and_self, if_true]
            exact ⟨by simp, .inr (.inl ⟨trivial, ⟨by simp, by simpa using h2, fun _ => rfl⟩, by simp⟩)⟩
        · simp only [Bool.false_eq_true, if_false, c1, not_true, c2, ne_eq, and_self, if_true, not_false_eq_true]
          exact ⟨by simp, .inr (.inr ⟨.inr trivial, ⟨h1, h2, h3⟩, trivial⟩)⟩
      · simp only [Bool.false_eq_true, if_false, c1, if_true, not_false_eq_true]
        exact ⟨by simp, .inr (.inr ⟨.inl trivial, ⟨h1, h2, h3⟩, trivial⟩)⟩
  · show (St.sync _).pn.length ≤ _ ∧ ((St.syncE _ = 0 ∧ (St.sync _).Fus _ f ∧ (St.sync _).dn = false) ∨ (St.syncE _ = 13 ∧ (St.sync _).Fus _ f ∧ (St.sync _).dn = true ∧ (St.sync _).nw = nw) ∨ ((St.syncE _ = 3 ∨ St.syncE _ = 14) ∧ (St.sync _).Fus _ f ∧ (St.sync _).nw = nw))
    unfold St.sync St.syncE
    cases dn with
    | true => exact ⟨by simp, .inr (.inl ⟨rfl, ⟨h1, h2, h3⟩, rfl, rfl⟩)⟩
    | false =>
      rcases Int.lt_or_eq_of_le h1 with c3 | c3
      · have hb : St.burnt ⟨sy, nw, pn, fu, false⟩ = ⟨sy, nw, pn, fu - 1, false⟩ := by unfold St.burnt; rw [if_neg (by simp only; omega), if_pos (by simp only; omega)]
        simp only [hb, Bool.false_eq_true, if_false]
        exact ⟨by simp, .inl ⟨trivial, ⟨by simp only; omega, by simp only; omega, fun h => by cases h⟩, trivial⟩⟩
      · subst c3
        have hb : St.burnt ⟨sy, nw, pn, 0, false⟩ = ⟨sy, nw, pn, 0, true⟩ := rfl
        simp only [hb, Bool.false_eq_true, if_false, if_true]
        exact ⟨by simp, .inr (.inl ⟨trivial, ⟨by simp, by simpa using h2, fun _ => rfl⟩, trivial, trivial⟩)⟩
theorem fus_new (f : Int) (hf : 0 ≤ f) : ((St.new 8).fused f).Fus 0 f := ⟨hf, by show f + 0 = f; omega, fun h => by cases h⟩
end Go.Proofs.Ytomihbanpjedeaa
