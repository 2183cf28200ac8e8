/- The disk: Write, whatever comes. -/
import Derived.Test.YtomihbanpjedeaaDiskWrite
namespace Go.Proofs.Ytomihbanpjedeaa
open Go.RowKit
set_option linter.unusedSimpArgs false

theorem write_nil (a : Int) (A : Option Addr) (m c : Nat) (w : World) : Calls Try.prog 34 #[.pointer none, .int .i64 a, .slice A m c] w fun e w' => e = .returned (.int .i64 15) ∧ w' = w := by
  go_enter Try.func34, Try.ntmps34
  go_wp2
  go_ret
  exact ⟨rfl, rfl⟩
/-- The error, and the disk behind it. -/
def St.writeE (s : St) (n : Nat) (a : Int) (m : Nat) : Int := if s.dn then 13 else if ¬ (0 ≤ a ∧ a < n) then 3 else if m ≠ 64 then 14 else if s.burnt.dn then 13 else 0
def St.write (s : St) (n : Nat) (a : Int) (m : Nat) (ks : List Value) : St := if s.dn then s else if ¬ (0 ≤ a ∧ a < n) then s else if m ≠ 64 then s else if s.burnt.dn then s.burnt else s.wrote a.toNat ks
set_option maxHeartbeats 1000000 in
theorem write_calls (F : Nat → Prop) (d n m c : Nat) (a : Int) (s : St) (A : Option Addr) (ks : List Value) (w : World) (h : Dk w F d n s) (hn : n ≤ 2048) (hl : ks.length = m) (hB : 0 < m → ∃ B, A = some B ∧ Bsl w B ks ∧ ¬ F B.block) (hpn : s.pn.length ≤ 1000000) :
    Calls Try.prog 34 #[.pointer (some ⟨d, 0, none⟩), .int .i64 a, .slice A m c] w fun e w' => ∃ F', e = .returned (.int .i64 (s.writeE n a m)) ∧ Dk w' F' d n (s.write n a m ks) ∧ Chg F w w' ∧ Ext F F' w w' := by
  obtain ⟨_, _, _, _, _, _, _, _, _, c4, _, _⟩ := h.cells
  by_cases hd : s.dn = true
  · have e1 : s.write n a m ks = s := by unfold St.write; rw [if_pos hd]
    have e2 : s.writeE n a m = 13 := by unfold St.writeE; rw [if_pos hd]
    rw [e1, e2]
    rw [hd] at c4
    clear e1 e2 hd
    go_enter Try.func34, Try.ntmps34
    go_wp2
    go_ret
    exact ⟨F, rfl, h, Chg.refl _ _, Ext.refl _ _⟩
  · have hd' : s.dn = false := by simpa using hd
    have hth := there_calls F d n s a w h
    by_cases hr : 0 ≤ a ∧ a < n
    · rw [decide_eq_true hr] at hth
      by_cases hm : m = 64
      · by_cases hbd : s.burnt.dn = true
        · have e1 : s.write n a m ks = s.burnt := by unfold St.write; rw [if_neg hd, if_neg (by simp [hr]), if_neg (by simp [hm]), if_pos hbd]
          have e2 : s.writeE n a m = 13 := by unfold St.writeE; rw [if_neg hd, if_neg (by simp [hr]), if_neg (by simp [hm]), if_pos hbd]
          rw [e1, e2]
          have hbc := burn_calls F d n s w h
          rw [hbd] at hbc
          rw [hd'] at c4
          subst hm
          clear e1 e2 hd hd' hr hbd
          go_enter Try.func34, Try.ntmps34
          go_wp2_with fail
          refine hth.mono ?_
          rintro e w0 ⟨rfl, rfl⟩
          go_wp2_with fail
          refine hbc.mono ?_
          rintro e w1 ⟨rfl, hD, hc⟩
          go_wp2
          go_ret
          exact ⟨F, rfl, hD, hc, Ext.same _ _ _⟩
        · have hbd' : s.burnt.dn = false := by simpa using hbd
          have e1 : s.write n a m ks = s.wrote a.toNat ks := by unfold St.write; rw [if_neg hd, if_neg (by simp [hr]), if_neg (by simp [hm]), if_neg hbd]
          have e2 : s.writeE n a m = 0 := by unfold St.writeE; rw [if_neg hd, if_neg (by simp [hr]), if_neg (by simp [hm]), if_neg hbd]
          obtain ⟨B, rfl, hBs, hBF⟩ := hB (by omega)
          subst hm
          have := write_good F d n a.toNat c s B ks w h hn (by omega) hd' hbd' hl hBs hBF hpn
          rw [Int.toNat_of_nonneg hr.1] at this
          rw [e1, e2]
          exact this
      · have e1 : s.write n a m ks = s := by unfold St.write; rw [if_neg hd, if_neg (by simp [hr]), if_pos hm]
        have e2 : s.writeE n a m = 14 := by unfold St.writeE; rw [if_neg hd, if_neg (by simp [hr]), if_pos hm]
        rw [e1, e2]
        rw [hd'] at c4
        have t1 : ((m : Int) != 64) = true := by simp; omega
        clear e1 e2 hd hd' hr hm
        go_enter Try.func34, Try.ntmps34
        go_wp2_with fail
        refine hth.mono ?_
        rintro e w0 ⟨rfl, rfl⟩
        go_wp2_with fail
        go_ret
        exact ⟨F, rfl, h, Chg.refl _ _, Ext.refl _ _⟩
    · rw [decide_eq_false hr] at hth
      have e1 : s.write n a m ks = s := by unfold St.write; rw [if_neg hd, if_pos hr]
      have e2 : s.writeE n a m = 3 := by unfold St.writeE; rw [if_neg hd, if_pos hr]
      rw [e1, e2]
      rw [hd'] at c4
      clear e1 e2 hd hd' hr
      go_enter Try.func34, Try.ntmps34
      go_wp2_with fail
      refine hth.mono ?_
      rintro e w0 ⟨rfl, rfl⟩
      go_wp2_with fail
      go_ret
      exact ⟨F, rfl, h, Chg.refl _ _, Ext.refl _ _⟩
end Go.Proofs.Ytomihbanpjedeaa
