/- An act, done to a disk. -/
import Derived.Test.YtomihbanpjedeaaDiskNils
namespace Go.Proofs.Ytomihbanpjedeaa
open Go.RowKit
set_option linter.unusedSimpArgs false
/-- An act: what it does, where, bytes, a plan. -/
def actV (kind at_ : Int) (A : Option Addr) (m c : Nat) (p : Pl) : Value := .agg #[.int .i64 kind, .int .i64 at_, .slice A m c, .int .u64 (p.keep : Int), .int .i64 p.torn, .int .i64 p.cut]
set_option maxHeartbeats 1000000 in
theorem do_nil (kind at_ : Int) (A : Option Addr) (m c : Nat) (p : Pl) (w : World) :
    Calls Try.prog 18 #[.pointer none, actV kind at_ A m c p] w fun e w' => e = .returned (.int .i64 (if kind = 0 ∨ kind = 1 then 15 else 0)) ∧ Below w.heap.size w w' := by
  have hb : ∀ o, Below w.heap.size w (w.alloc o) := fun o => (Below.refl _ _).alloc (Nat.le_refl _) _
  unfold actV
  by_cases h0 : kind = 0
  · subst h0
    go_enter Try.func18, Try.ntmps18
    go_wp2_with fail
    refine (write_nil at_ A m c _).mono ?_
    rintro e w1 ⟨rfl, rfl⟩
    go_wp2_with fail
    go_ret
    exact ⟨rfl, hb _⟩
  · have t0 : (kind == 0) = false := by simp [h0]
    by_cases h1 : kind = 1
    · subst h1
      go_enter Try.func18, Try.ntmps18
      go_wp2_with fail
      refine (sync_nil _).mono ?_
      rintro e w1 ⟨rfl, rfl⟩
      go_wp2_with fail
      go_ret
      exact ⟨rfl, hb _⟩
    · have t1 : (kind == 1) = false := by simp [h1]
      rw [if_neg (by omega)]
      by_cases h2 : kind = 2
      · subst h2
        go_enter Try.func18, Try.ntmps18
        go_wp2_with fail
        refine (fuse_nil at_ _).mono ?_
        rintro e w1 ⟨rfl, rfl⟩
        go_wp2_with fail
        go_ret
        exact ⟨rfl, hb _⟩
      · have t2 : (kind == 2) = false := by simp [h2]
        by_cases h3 : kind = 3
        · subst h3
          go_enter Try.func18, Try.ntmps18
          go_wp2_with fail
          refine (crash_nil p _).mono ?_
          rintro e w1 ⟨rfl, hb1⟩
          go_wp2_with fail
          go_ret
          exact ⟨rfl, (hb _).trans (hb1.mono (by simp))⟩
        · have t3 : (kind == 3) = false := by simp [h3]
          clear h0 h1 h2 h3
          go_enter Try.func18, Try.ntmps18
          go_wp2_with fail
          go_ret
          exact ⟨rfl, hb _⟩

def St.act (s : St) (n : Nat) (kind at_ : Int) (ks : List Value) (p : Pl) : St :=
  if kind = 0 then s.write n at_ ks.length ks else if kind = 1 then s.sync else if kind = 2 then s.fused at_ else if kind = 3 then s.crash p else s
def St.actE (s : St) (n : Nat) (kind at_ : Int) (m : Nat) : Int := if kind = 0 then s.writeE n at_ m else if kind = 1 then s.syncE else 0
set_option maxHeartbeats 1000000 in
theorem do_calls (F : Nat → Prop) (d n : Nat) (s : St) (kind at_ : Int) (A : Option Addr) (c : Nat) (ks : List Value) (p : Pl) (w : World) (h : Dk w F d n s) (hn : n ≤ 2048) (hB : 0 < ks.length → ∃ B, A = some B ∧ Bsl w B ks ∧ ¬ F B.block) (hpn : s.pn.length ≤ 1000000)
    (ha : -9223372036854775808 ≤ at_ ∧ at_ ≤ 9223372036854775807) (hkp : p.keep < 18446744073709551616) :
    Calls Try.prog 18 #[.pointer (some ⟨d, 0, none⟩), actV kind at_ A ks.length c p] w fun e w' => ∃ F', e = .returned (.int .i64 (s.actE n kind at_ ks.length)) ∧ Dk w' F' d n (s.act n kind at_ ks p) ∧ Chg F w w' ∧ Ext F F' w w' := by
  have hb : ∀ o, Below w.heap.size w (w.alloc o) := fun o => (Below.refl _ _).alloc (Nat.le_refl _) _
  have hD : ∀ o, Dk (w.alloc o) F d n s := fun o => h.below (hb o)
  have hc : ∀ o w1, Chg F (w.alloc o) w1 → Chg F w w1 := fun o w1 k => (Chg.of_below (hb o)).trans k (fun i hi => .inl hi)
  have he : ∀ o w1 F', (w.alloc o).heap.size ≤ w1.heap.size → Ext F F' (w.alloc o) w1 → Ext F F' w w1 := fun o w1 F' hs k => (Ext.same F w (w.alloc o)).trans k (by simp) hs
  have hB' : ∀ o, 0 < ks.length → ∃ B, A = some B ∧ Bsl (w.alloc o) B ks ∧ ¬ F B.block := fun o hm => by
    obtain ⟨B, e, hs, hf⟩ := hB hm
    exact ⟨B, e, ⟨hs.1, fun j u hj => pw_cell_below (hb o) (hs.2 j u hj)⟩, hf⟩
  unfold actV
  by_cases h0 : kind = 0
  · subst h0
    have e1 : s.act n 0 at_ ks p = s.write n at_ ks.length ks := rfl
    have e2 : s.actE n 0 at_ ks.length = s.writeE n at_ ks.length := rfl
    rw [e1, e2]
    go_enter Try.func18, Try.ntmps18
    go_wp2_with fail
    refine (write_calls F d n ks.length c at_ s A ks _ (hD _) hn rfl (hB' _) hpn).mono ?_
    rintro e w1 ⟨F', rfl, r1, r2, r3⟩
    go_wp2_with fail
    go_ret
    exact ⟨F', rfl, r1, hc _ _ r2, he _ _ _ r2.size r3⟩
  · have t0 : (kind == 0) = false := by simp [h0]
    by_cases h1 : kind = 1
    · subst h1
      have e1 : s.act n 1 at_ ks p = s.sync := rfl
      have e2 : s.actE n 1 at_ ks.length = s.syncE := rfl
      rw [e1, e2]
      go_enter Try.func18, Try.ntmps18
      go_wp2_with fail
      refine (sync_calls F d n s _ (hD _) hn).mono ?_
      rintro e w1 ⟨F', rfl, r1, r2, r3⟩
      go_wp2_with fail
      go_ret
      exact ⟨F', rfl, r1, hc _ _ r2, he _ _ _ r2.size r3⟩
    · have t1 : (kind == 1) = false := by simp [h1]
      have e2 : s.actE n kind at_ ks.length = 0 := by unfold St.actE; rw [if_neg h0, if_neg h1]
      rw [e2]
      by_cases h2 : kind = 2
      · subst h2
        have e1 : s.act n 2 at_ ks p = s.fused at_ := rfl
        rw [e1]
        clear e2
        go_enter Try.func18, Try.ntmps18
        go_wp2_with fail
        refine (fuse_calls F d n s at_ _ (hD _) ha).mono ?_
        rintro e w1 ⟨rfl, r1, r2⟩
        go_wp2_with fail
        go_ret
        exact ⟨F, rfl, r1, hc _ _ r2, Ext.same _ _ _⟩
      · have t2 : (kind == 2) = false := by simp [h2]
        by_cases h3 : kind = 3
        · subst h3
          have e1 : s.act n 3 at_ ks p = s.crash p := rfl
          rw [e1]
          clear e2
          go_enter Try.func18, Try.ntmps18
          go_wp2_with fail
          refine (crash_calls F d n s p _ (hD _) hn hpn hkp).mono ?_
          rintro e w1 ⟨F', rfl, r1, r2, r3⟩
          go_wp2_with fail
          go_ret
          exact ⟨F', rfl, r1, hc _ _ r2, he _ _ _ r2.size r3⟩
        · have t3 : (kind == 3) = false := by simp [h3]
          have e1 : s.act n kind at_ ks p = s := by unfold St.act; rw [if_neg h0, if_neg h1, if_neg h2, if_neg h3]
          rw [e1]
          have r := hD
          clear h0 h1 h2 h3 e1 e2
          go_enter Try.func18, Try.ntmps18
          go_wp2_with fail
          go_ret
          exact ⟨F, rfl, r _, Chg.of_below (hb _), Ext.same _ _ _⟩
end Go.Proofs.Ytomihbanpjedeaa
