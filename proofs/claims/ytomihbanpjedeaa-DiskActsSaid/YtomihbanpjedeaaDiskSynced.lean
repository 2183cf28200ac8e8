/- The law DiskSynced, whatever comes in. -/
import Derived.Test.YtomihbanpjedeaaDiskLoop
namespace Go.Proofs.Ytomihbanpjedeaa
open Go.RowKit
set_option linter.unusedSimpArgs false
/-! ### Plain -/
def St.Calm (s : St) : Prop := s.fu = -1 ∧ s.dn = false
theorem St.Calm.burnt {s : St} (h : s.Calm) : s.burnt = s := by unfold St.burnt; rw [h.1]; rfl
theorem St.Calm.write {s : St} (h : s.Calm) (n : Nat) (a : Int) (m : Nat) (ks : List Value) :
    s.write n a m ks = (if 0 ≤ a ∧ a < n ∧ m = 64 then s.wrote a.toNat ks else s) := by
  unfold St.write
  rw [h.2, h.burnt, h.2]
  by_cases h1 : 0 ≤ a ∧ a < n
  · by_cases h2 : m = 64
    · simp [h1, h2]
    · simp [h1, h2]
  · rw [if_neg (by simp), if_pos h1, if_neg (by omega)]
theorem St.Calm.wrote {s : St} (h : s.Calm) (k : Nat) (ks : List Value) : (s.wrote k ks).Calm := by
  have hb := h.burnt
  unfold St.wrote
  exact ⟨by simp only [hb]; exact h.1, by simp only [hb]; exact h.2⟩
theorem St.Calm.sync {s : St} (h : s.Calm) : s.sync = { s with sy := s.nw, pn := [] } := by
  obtain ⟨sy, nw, pn, fu, dn⟩ := s
  obtain ⟨rfl, rfl⟩ := h
  rfl
theorem St.Calm.syncE {s : St} (h : s.Calm) : s.syncE = 0 := by
  obtain ⟨sy, nw, pn, fu, dn⟩ := s
  obtain ⟨rfl, rfl⟩ := h
  rfl
theorem put_get {xs ks : List Value} {k : Nat} (h : k * 64 + ks.length ≤ xs.length) (i : Nat) :
    (put xs k ks)[i]? = if i < k * 64 then xs[i]? else if i < k * 64 + ks.length then ks[i - k * 64]? else xs[i]? := by
  unfold put
  rw [List.append_assoc, List.getElem?_append, List.length_take, Nat.min_eq_left (by omega)]
  split
  · rw [List.getElem?_take, if_pos (by omega)]
  · rw [List.getElem?_append]
    split
    · rw [if_pos (by omega)]
    · rw [if_neg (by omega), List.getElem?_drop]
      congr 1
      omega
theorem sec_get (xs : List Value) (j i : Nat) : (sec xs j)[i]? = if i < 64 then xs[j * 64 + i]? else none := by
  unfold sec
  rw [List.getElem?_take]
  split
  · rw [List.getElem?_drop]
  · rfl
theorem sec_put_other {xs ks : List Value} {n k j : Nat} (hx : xs.length = n * 64) (hk : k < n) (hne : k ≠ j) (hl : ks.length ≤ 64) : sec (put xs k ks) j = sec xs j := by
  apply List.ext_getElem?
  intro i
  rw [sec_get, sec_get]
  split
  · rw [put_get (by omega)]
    rcases Nat.lt_or_ge k j with e | e
    · rw [if_neg (by omega), if_neg (by omega)]
    · rw [if_pos (by omega)]
  · rfl
theorem crashTo_other (p : Pl) {pn : List (Nat × List Value)} {xs : List Value} {n j : Nat} (hx : xs.length = n * 64) (hp : ∀ q ∈ pn, q.1 < n ∧ q.2.length = 64 ∧ Bytes q.2) (hj : ∀ q ∈ pn, q.1 ≠ j) : ∀ i, i ≤ pn.length → sec (crashTo p pn xs i) j = sec xs j
  | 0, _ => rfl
  | i + 1, hi => by
    have hm : pn.getD i (0, []) ∈ pn := by simp [List.getD, List.getElem?_eq_getElem (show i < pn.length by omega)]
    have hq := hp _ hm
    show sec (put (crashTo p pn xs i) _ _) j = _
    rw [sec_put_other (crashTo_length p hx hp i (by omega)) hq.1 (hj _ hm) (by rw [List.length_take]; omega)]
    exact crashTo_other p hx hp hj i (by omega)
/-- In the first loop: nothing burns. -/
theorem St.Calm.act {s : St} (h : s.Calm) (n : Nat) (kind a : Int) (ks : List Value) (p : Pl) (hk : kind = 0 ∨ kind = 1) : (s.act n kind a ks p).Calm ∧ (s.act n kind a ks p).pn.length ≤ s.pn.length + 1 := by
  rcases hk with rfl | rfl
  · have e : s.act n 0 a ks p = s.write n a ks.length ks := rfl
    rw [e, h.write]
    split
    · exact ⟨h.wrote _ _, by simp [St.wrote]⟩
    · exact ⟨h, by omega⟩
  · have e : s.act n 1 a ks p = s.sync := rfl
    rw [e, h.sync]
    exact ⟨h, by simp⟩
/-- The second loop's: sector 3 was not written. -/
structure St.Three (s : St) (k : Nat) (want : List Value) : Prop where
  calm : s.Calm
  len : s.pn.length ≤ k
  want : sec s.sy 3 = want
  other : ∀ q ∈ s.pn, q.1 ≠ 3
theorem St.Three.act {s : St} {k : Nat} {want : List Value} (h : s.Three k want) {n : Nat} {a : Int} {ks : List Value} (p : Pl) (ha : a ≠ 3) : (s.act n 0 a ks p).Three (k + 1) want := by
  have e : s.act n 0 a ks p = s.write n a ks.length ks := rfl
  rw [e, h.calm.write]
  split
  · rename_i hc
    have hb := h.calm.burnt
    refine ⟨h.calm.wrote _ _, by simpa [St.wrote] using h.len, by simp only [St.wrote, hb]; exact h.want, fun q hq => ?_⟩
    simp only [St.wrote, List.mem_append, List.mem_singleton] at hq
    rcases hq with hq | rfl
    · exact h.other q hq
    · show a.toNat ≠ 3; omega
  · exact ⟨h.calm, by have := h.len; omega, h.want, h.other⟩
theorem St.Three.crash {s : St} {k n : Nat} {want : List Value} (h : s.Three k want) (hok : s.Ok n) (p : Pl) : sec (s.crash p).nw 3 = want :=
  (crashTo_other p hok.sl hok.pl h.other _ (Nat.le_refl _)).trans h.want

theorem acts_get {W wr : World} {A : Option Addr} {L : List Ac} (h : Acts W A L) (hb : Below W.heap.size W wr) {k : Nat} (hk : k < L.length) :
    ∃ a, A = some a ∧ L[k].Ok W ∧ (loadVar 43 (a.add (k * 6))).run Try.prog wr = .ok L[k].val wr := by
  obtain ⟨a, ha, hc⟩ := h (by omega)
  obtain ⟨h1, h2⟩ := hc k L[k] (List.getElem?_eq_getElem hk)
  exact ⟨a, ha, h1, load_act fun j u hj => by rw [Addr.add_add]; exact pw_cell_below hb (h2 j u hj)⟩
theorem Dk.ok {w : World} {F : Nat → Prop} {d n : Nat} {s : St} (h : Dk w F d n s) : s.Ok n := by
  obtain ⟨_, _, _, _, _, _, _, _, _, _, _, _, _, _, hok⟩ := h
  exact hok
end Go.Proofs.Ytomihbanpjedeaa
