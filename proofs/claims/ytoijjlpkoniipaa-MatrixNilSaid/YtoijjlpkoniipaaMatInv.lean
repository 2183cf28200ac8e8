/- Matrices: Inverse. -/
import Derived.Test.YtoijjlpkoniipaaMatClear
namespace Go.Proofs.Ytoijjlpkoniipaa
open Go.RowKit Go.Proofs.YtoijjlpkoniipaaW.PrintWords Go.Proofs.YtoijjlpkoniipaaW.PrintLast Gf Lin
set_option linter.unusedSimpArgs false
/-- A square matrix. -/
def Sq (m : List (List UInt8)) : Prop := Rgt m ∧ m.length = (gr m 0).length
/-- What Inverse answers: the rows, the error. -/
def InvPost (m : List (List UInt8)) (w' : World) (v : Value) (ev : Int) : Prop :=
  (¬ Sq m ∧ v = .slice none 0 0 ∧ ev = 14) ∨
  (Sq m ∧ v = .slice none 0 0 ∧ ev = 11 ∧ ∃ (x : Nat → UInt8) (i : Nat), i < m.length ∧ x i ≠ 0 ∧ ∀ a, a < m.length → sm m.length (fun j => gm (fn m a j) (x j)) = 0) ∨
  (Sq m ∧ ev = 0 ∧ ∃ M S, Rel m.length (fn m) Lin.unit M S ∧ (∀ i, i < m.length → ∀ j, j < m.length → M i j = Lin.unit i j) ∧ RBB w' v (rowsOf m.length m.length S))
theorem inverse_nil (A : Option Addr) (l cap : Nat) (w : World) : Calls Try.prog 51 #[.pointer none, .slice A l cap] w fun e w' => e = .returned (.tuple #[.slice none 0 0, .int .i64 15]) ∧ w' = w := by
  go_enter Try.func51, Try.ntmps51
  go_wp2_with fail
  go_ret2
  exact ⟨rfl, rfl⟩
set_option maxHeartbeats 4000000 in
set_option maxRecDepth 100000 in
theorem inverse_calls (gt : Nat) (A : Option Addr) (m : List (List UInt8)) (cap : Nat) (w : World) (ht : Tab w gt) (hg : gt < w.heap.size) (hr : KBB.C w A m.length (bss m)) :
    Calls Try.prog 51 #[.pointer (some ⟨gt, 0, none⟩), .slice A m.length cap] w fun e w' => ∃ v ev, e = .returned (.tuple #[v, .int .i64 ev]) ∧ InvPost m w' v ev ∧ Below w.heap.size w w' := by
  have hri := right_calls A m cap w hr
  by_cases hm : Rgt m
  · obtain ⟨ad, B0, c0, rfl, hcell, hcc, _⟩ := C_rowD hr (k := 0) (by have := hm.n1; omega)
    have add0 : ad.add 0 = ad := by simp [Addr.add]
    rw [add0] at hcell
    have hcop := copied_calls (some ad) m cap w hr hm
    by_cases hsq : m.length = (gr m 0).length
    · have hSq : Sq m := ⟨hm, hsq⟩
      rw [← hsq] at hcop hcell
      have HFN := Lib.hid (show InvPost m = InvPost m from rfl)
      obtain ⟨n, hn⟩ : ∃ n, n = m.length := ⟨_, rfl⟩
      have Hn := Lib.hid hn
      have n1 : 1 ≤ n := by have := hm.n1; omega
      have n2 : n ≤ 255 := by have := hm.n2; omega
      rw [← hn] at hri hcop hcell ⊢
      have tn : ((n : Int) != (n : Int)) = false := by simp
      have i0 : (0 : Int) < (n : Int) := by omega
      have HM := Lib.hid hm
      have HSQ := Lib.hid hSq
      have HT := Lib.hid ht
      clear hn hr hm hsq hSq hcc add0 ht
      go_enter Try.func51, Try.ntmps51
      go_wp2_with fail
      refine hri.mono ?_
      clear hri
      rintro e w0 ⟨b, rfl, rfl, hb⟩
      have hbt : b = true := hb.2 HM.out
      subst hbt
      clear hb
      go_wp2_with fail
      refine hcop.mono ?_
      clear hcop
      rintro e w1 ⟨rfl, hm1, hb1, hs1⟩
      have hun := unit_calls n n1 n2 w1
      have HM1 := Lib.hid hm1
      have HB1 := Lib.hid hb1
      have HS1 := Lib.hid hs1
      clear hm1 hb1 hs1 tn
      go_wp2_with fail
      refine hun.mono ?_
      clear hun
      rintro e w2 ⟨rfl, hm2, hb2, hs2⟩
      have HM2 := Lib.hid hm2
      have HB2 := Lib.hid hb2
      have HS2 := Lib.hid hs2
      clear hm2 hb2 hs2
      go_wp2_with fail
      obtain ⟨w3, hw3⟩ : ∃ w3, w3 = w2.alloc (.cells #[.pointer (some ⟨gt, 0, none⟩), .slice (some ⟨w0.heap.size + 1, 0, none⟩) n n, .slice (some ⟨w1.heap.size + 1, 0, none⟩) n n] 102) := ⟨_, rfl⟩
      rw [← hw3]
      have hb12 : Below w0.heap.size w0 w2 := HB1.out.trans (HB2.out.mono HB1.out.size)
      have hb3 : Below w2.heap.size w2 w3 := by rw [hw3]; exact (Below.refl _ _).alloc (Nat.le_refl _) _
      have hb03 : Below w0.heap.size w0 w3 := hb12.trans (hb3.mono hb12.size)
      have s1 := HS1.out
      have s2 := HS2.out
      have s3 : w3.heap.size = w2.heap.size + 1 := by rw [hw3]; simp
      have hwk : Wk w3 w2.heap.size gt (w0.heap.size + 1) w0.heap.size (w1.heap.size + 1) w1.heap.size n n n id id (fn m) Lin.unit := by
        refine ⟨by rw [hw3]; exact heap_alloc_new w2 _, tab_same HT.out (hb03.block gt hg), ?_, HM2.out.same (hb3.block _ (by omega)) (hb3.block _ (by omega)), perm_id n, perm_id n, by omega, by omega, by omega, by omega, ⟨n1, n2⟩, ⟨n1, n2⟩, ⟨n1, n2⟩⟩
        exact HM1.out.same ((hb3.block _ (by omega)).trans (HB2.out.block _ (by omega))) ((hb3.block _ (by omega)).trans (HB2.out.block _ (by omega)))
      obtain ⟨g, hgg⟩ : ∃ g, g = w2.heap.size := ⟨_, rfl⟩
      obtain ⟨gm, hgm⟩ : ∃ gm, gm = w0.heap.size + 1 := ⟨_, rfl⟩
      obtain ⟨ga, hga⟩ : ∃ ga, ga = w0.heap.size := ⟨_, rfl⟩
      obtain ⟨gs, hgs⟩ : ∃ gs, gs = w1.heap.size + 1 := ⟨_, rfl⟩
      obtain ⟨gb, hgb⟩ : ∃ gb, gb = w1.heap.size := ⟨_, rfl⟩
      have hWF : ∀ i, WF gm ga gs gb i → w0.heap.size ≤ i := fun i hi => by unfold WF at hi; omega
      rw [← hgg, ← hgm, ← hga, ← hgs, ← hgb] at hwk
      rw [← hgg, ← hgm, ← hgs]
      have HWK := Lib.hid hwk
      have HB03 := Lib.hid hb03
      have HWF := Lib.hid hWF
      clear hw3 hb12 hb3 hb03 s1 s2 s3 hwk hgg hgm hga hgs hgb hWF HM1 HM2 HB1 HB2 HS1 HS2 hcell
      go_loopw [34] (fun z wr => ∃ i : Nat, i ≤ n ∧ z = .int .i64 i ∧ ∃ p q M S, Wk wr g gt gm ga gs gb n n n p q M S ∧ Rel n (fn m) Lin.unit M S ∧ Cols n i id M ∧ Chg (WF gm ga gs gb) w3 wr) (fun z _ => n - (intOf z).toNat)
      case atStart => exact ⟨0, by omega, rfl, _, _, _, _, HWK.out, Rel.start n _ _, fun t ht => by omega, Chg.refl _ _⟩
      case round =>
        obtain ⟨i, hi, rfl, p, q, M, S, hwi, hrel', hcols, hchi⟩ := hrel
        by_cases hin : i < n
        · have hcl := clear_calls hwi hin hin
          have l1 : (0 : Int) ≤ (i : Int) := by omega
          have l2 : (i : Int) < (n : Int) := by omega
          have HRE := Lib.hid hrel'
          have HCO := Lib.hid hcols
          have HCH := Lib.hid hchi
          clear hwi hrel' hcols hchi
          go_wp2_with fail
          refine hcl.mono ?_
          clear hcl
          rintro e w5 ⟨b, rfl, p', q', M', S', hw5, hch5, hres⟩
          have hch6 := HCH.out.trans hch5 (fun _ hx => .inl hx)
          have HW5 := Lib.hid hw5
          have HC6 := Lib.hid hch6
          clear hw5 hch5 hch6
          rcases hres with ⟨rfl, rfl, rfl, hz⟩ | ⟨rfl, at_, ha1, ha2, hne, rfl, rfl⟩
          · obtain ⟨x, hx1, hx2⟩ := stuck_kernel hin HCO.out hz
            have hk := HRE.out.kernel x hx2
            have hbel := HC6.out.below (B := w0.heap.size) HB03.out HB03.out.size HWF.out
            have HB := Lib.hid hbel
            have HK : Hid (∃ (x : Nat → UInt8) (i : Nat), i < n ∧ x i ≠ 0 ∧ ∀ a, a < n → sm n (fun j => Gf.gm (fn m a j) (x j)) = 0) := Lib.hid ⟨x, i, hin, hx1, hk⟩
            clear hz hx1 hx2 hk hbel x
            go_wp2_with fail
            go_ret2
            exact ⟨_, _, rfl, .inr (.inl ⟨HSQ.out, rfl, rfl, by rw [← Hn.out]; exact HK.out⟩), HB.out⟩
          · have hr2 := HRE.out.clr hin ha2 hne
            have hc2 := clr_cols HCO.out ha1 ha2 hne (p := id) rfl
            have HR2 := Lib.hid hr2
            have HC2 := Lib.hid hc2
            clear ha1 ha2 hne hr2 hc2
            go_wp2_with fail
            exact ⟨⟨i + 1, by omega, by go_num, p', q', _, _, HW5.out, HR2.out, HC2.out, HC6.out⟩, by simp [intOf]; omega⟩
        · obtain rfl : n = i := by omega
          have c2 := hwi.c2
          have hrd := hwi.s.reads (by omega) (by omega)
          have hbel := hchi.below (B := w0.heap.size) HB03.out HB03.out.size HWF.out
          have hrbb : RBB wr (.slice (some ⟨gs, 0, none⟩) n n) (rowsOf n n S) := ⟨some ⟨gs, 0, none⟩, n, by simp, by simp, by simpa using hrd⟩
          have HRB := Lib.hid hrbb
          have HB := Lib.hid hbel
          have HRE := Lib.hid hrel'
          have HCO := Lib.hid hcols
          clear hwi hrd hbel hrbb hrel' hcols hchi
          go_wp2_with fail
          go_ret2
          refine ⟨_, _, rfl, .inr (.inr ⟨HSQ.out, rfl, M, S, ?_⟩), HB.out⟩
          rw [← Hn.out]
          exact ⟨HRE.out, fun i hi j hj => HCO.out j hj i hi, HRB.out⟩
    · obtain ⟨n, hn⟩ : ∃ n, n = m.length := ⟨_, rfl⟩
      obtain ⟨c, hc⟩ : ∃ c, c = (gr m 0).length := ⟨_, rfl⟩
      have n1 : 1 ≤ n := by have := hm.n1; omega
      have tn : ((n : Int) != (c : Int)) = true := by simp; omega
      have i0 : (0 : Int) < (n : Int) := by omega
      have HM := Lib.hid hm
      have HNS : Hid (¬ Sq m) := Lib.hid fun q => hsq q.2
      rw [← hn] at hri ⊢
      rw [← hc] at hcell
      clear hn hc hr hm hsq hcc add0 ht hcop
      go_enter Try.func51, Try.ntmps51
      go_wp2_with fail
      refine hri.mono ?_
      clear hri
      rintro e w0 ⟨b, rfl, rfl, hb⟩
      have hbt : b = true := hb.2 HM.out
      subst hbt
      clear hb
      go_wp2_with fail
      go_ret2
      exact ⟨_, _, rfl, .inl ⟨HNS.out, rfl, rfl⟩, Below.refl _ _⟩
  · have HNS : Hid (¬ Sq m) := Lib.hid fun q => hm q.1
    have HM := Lib.hid hm
    clear hm hr ht
    go_enter Try.func51, Try.ntmps51
    go_wp2_with fail
    refine hri.mono ?_
    clear hri
    rintro e w0 ⟨b, rfl, rfl, hb⟩
    have hbt : b = false := by
      cases b with
      | false => rfl
      | true => exact absurd (hb.1 rfl) HM.out
    subst hbt
    clear hb
    go_wp2_with fail
    go_ret2
    exact ⟨_, _, rfl, .inl ⟨HNS.out, rfl, rfl⟩, Below.refl _ _⟩
end Go.Proofs.Ytoijjlpkoniipaa
