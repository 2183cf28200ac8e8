/- Codes: wrong. -/
import Derived.Test.YtoijjlpkoniipaaRsRow
set_option linter.unusedVariables false
set_option linter.unusedSimpArgs false
namespace Go.Proofs.Ytoijjlpkoniipaa
open Go.RowKit Go.Proofs.YtoijjlpkoniipaaW.PrintWords Go.Proofs.YtoijjlpkoniipaaW.PrintLast Gf Lin Go.ChangeShapes Go.WideShapes
/-- A slice of q numbers reads as zs. -/
structure RI (w : World) (A : Option Addr) (q c : Nat) (zs : List Int) : Prop where
  le : q ≤ c
  rd : KI.C w A q zs
theorem RI.below {w w1 : World} {A : Option Addr} {q c : Nat} {zs : List Int} (h : RI w A q c zs) (hb : Below w.heap.size w w1) : RI w1 A q c zs := ⟨h.le, Kd.C_below h.rd hb⟩
theorem RI.len {w : World} {A : Option Addr} {q c : Nat} {zs : List Int} (h : RI w A q c zs) : zs.length = q := h.rd.1
def gz (zs : List Int) (i : Nat) : Int := zs.getD i 0
theorem gz_at {zs : List Int} {i : Nat} (h : i < zs.length) : gz zs i = zs[i] := by unfold gz; simp [h]
theorem RI.num {w : World} {A : Option Addr} {q c : Nat} {zs : List Int} (h : RI w A q c zs) {k : Nat} (hk : k < q) :
    ∃ ad, A = some ad ∧ w.cell? (ad.add k) = some (.int .i64 (gz zs k)) := by
  have hl := h.len
  subst hl
  obtain ⟨ad, hA, hc⟩ := (Kd.reads_of_C (d := (0 : Int)) (h1 := fun _ => rfl) h.rd : ReadsInt w .i64 A zs.length zs).at_ (k : Int) (by omega) (by omega)
  refine ⟨ad, hA, ?_⟩
  rw [Int.toNat_natCast] at hc
  rw [hc]
  rfl
/-- Numbers of pieces: there, and each once. -/
def AtOk (n : Nat) (zs : List Int) : Prop := (∀ z ∈ zs, 0 ≤ z ∧ z < (n : Int)) ∧ zs.Nodup
theorem AtOk.nil (n : Nat) : AtOk n [] := ⟨fun z hz => absurd hz (by simp), List.nodup_nil⟩
theorem AtOk.range {n : Nat} {zs : List Int} (h : AtOk n zs) {i : Nat} (hi : i < zs.length) : 0 ≤ gz zs i ∧ gz zs i < (n : Int) := by rw [gz_at hi]; exact h.1 _ (List.getElem_mem _)
theorem take_snoc {zs : List Int} {i : Nat} (hi : i < zs.length) : zs.take (i + 1) = zs.take i ++ [gz zs i] := by rw [gz_at hi]; exact List.take_succ_eq_append_getElem hi
theorem AtOk.snoc {n : Nat} {zs : List Int} {i : Nat} (hi : i < zs.length) (h : AtOk n (zs.take i)) (hr : 0 ≤ gz zs i ∧ gz zs i < (n : Int)) (hm : gz zs i ∉ zs.take i) : AtOk n (zs.take (i + 1)) := by
  rw [take_snoc hi]
  refine ⟨fun z hz => ?_, ?_⟩
  · rcases List.mem_append.1 hz with hz | hz
    · exact h.1 z hz
    · rw [List.mem_singleton.1 hz]; exact hr
  · rw [List.nodup_append]
    exact ⟨h.2, by simp, fun a ha b hb e => hm (by rw [List.mem_singleton.1 hb] at e; rw [← e]; exact ha)⟩
theorem not_atok_mem {n : Nat} {zs : List Int} {i : Nat} (hi : i < zs.length) (hm : gz zs i ∈ zs.take i) : ¬ AtOk n zs := fun h => by
  have hs : (zs.take (i + 1)).Nodup := h.2.sublist (List.take_sublist _ _)
  rw [take_snoc hi, List.nodup_append] at hs
  exact hs.2.2 _ hm _ (by simp) rfl
open Classical in
/-- What is wrong. -/
noncomputable def docWrong (k n : Nat) (zs : List Int) (m : List (List UInt8)) : Int := if zs.length = m.length ∧ Alike m then (if AtOk n zs then (if zs.length < k then 10 else 0) else 3) else 14
theorem docWrong_14 {k n : Nat} {zs : List Int} {m : List (List UInt8)} (h : ¬ (zs.length = m.length ∧ Alike m)) : docWrong k n zs m = 14 := by unfold docWrong; rw [if_neg h]
theorem docWrong_3 {k n : Nat} {zs : List Int} {m : List (List UInt8)} (h : zs.length = m.length ∧ Alike m) (h2 : ¬ AtOk n zs) : docWrong k n zs m = 3 := by unfold docWrong; rw [if_pos h, if_neg h2]
theorem docWrong_10 {k n : Nat} {zs : List Int} {m : List (List UInt8)} (h : zs.length = m.length ∧ Alike m) (h2 : AtOk n zs) (h3 : zs.length < k) : docWrong k n zs m = 10 := by unfold docWrong; rw [if_pos h, if_pos h2, if_pos h3]
theorem docWrong_0 {k n : Nat} {zs : List Int} {m : List (List UInt8)} (h : zs.length = m.length ∧ Alike m) (h2 : AtOk n zs) (h3 : ¬ zs.length < k) : docWrong k n zs m = 0 := by unfold docWrong; rw [if_pos h, if_pos h2, if_neg h3]
/-- Which were met: N places. -/
def metN (N : Nat) (zs : List Int) : Array Value := ((List.range N).map fun p : Nat => Value.bool (decide ((p : Int) ∈ zs))).toArray
theorem metN_at {N : Nat} {zs : List Int} {p : Nat} (hp : p < N) : (metN N zs)[p]? = some (.bool (decide ((p : Int) ∈ zs))) := by unfold metN; simp [hp]
theorem metN_set {N : Nat} {zs : List Int} {p : Nat} (hp : p < N) : (metN N zs).setIfInBounds p (.bool true) = metN N (zs ++ [(p : Int)]) := by
  unfold metN
  apply Array.ext
  · simp
  · intro i h1 h2
    by_cases hip : p = i
    · subst hip; simp
    · have h3 : ((List.map (fun p : Nat => Value.bool (decide ((p : Int) ∈ zs))) (List.range N)).toArray.setIfInBounds p (.bool true))[i] = ((List.map (fun p : Nat => Value.bool (decide ((p : Int) ∈ zs))) (List.range N)).toArray)[i]'(by simpa using h1) := Array.getElem_setIfInBounds_ne (by simpa using h1) hip
      rw [h3]
      have : ¬ (i : Int) = (p : Int) := by omega
      simp [this]
theorem metN_nil : Try.zeroCells108 = metN 255 [] := by kernel_rfl
set_option maxHeartbeats 1000000 in
set_option maxRecDepth 100000 in
theorem wrong_R {w : World} {gc gt : Nat} {A : Option Addr} {k n cap : Nat} (H : Cd w gc gt A k n cap) {B : Option Addr} {q c : Nat} {zs : List Int} (hz : RI w B q c zs) (hq : q ≤ 1000) {C : Option Addr} {q' c' : Nat} {m : List (List UInt8)} (h : RD w C q' c' m) (hq' : q' ≤ 1000) :
    Calls Try.prog 69 #[.pointer (some ⟨gc, 0, none⟩), .slice B q c, .slice C q' c'] w fun e w' => ∃ z, e = .returned (.int .i64 z) ∧ z = docWrong k n zs m ∧ Below w.heap.size w w' := by
  have hn2 := H.n2
  have hk2 : k ≤ 255 := Nat.le_trans H.kn hn2
  have hl := h.len
  have hlz := hz.len
  by_cases hqq : q = q'
  · have t1 : ((q : Int) != (q' : Int)) = false := by rw [hqq]; simp
    have hal := alike_R h hq'
    have HC := Lib.hid H
    have HZ := Lib.hid hz
    have HL : Hid (zs.length = m.length) := Lib.hid (by omega)
    have HLZ := Lib.hid hlz
    clear H hz h hl hlz hqq
    go_enter Try.func69, Try.ntmps69
    go_wp2_with fail
    refine hal.mono ?_
    clear hal
    rintro e w1 ⟨b, rfl, hb, hb1⟩
    have HB := Lib.hid hb1
    replace HC := Lib.hid (HC.out.below hb1)
    replace HZ := Lib.hid (HZ.out.below hb1)
    have HBA := Lib.hid hb
    clear hb hb1
    by_cases ha : Alike m
    · obtain rfl : b = true := HBA.out.2 ha
      have HA : Hid (zs.length = m.length ∧ Alike m) := Lib.hid ⟨HL.out, ha⟩
      have hm0 : (w1.alloc (.cells Try.zeroCells108 108)).heap[w1.heap.size]? = some (.cells (metN 255 (zs.take 0)) 108) := by
        rw [heap_alloc_new, metN_nil]; rfl
      have hb0 : Below w1.heap.size w1 (w1.alloc (.cells Try.zeroCells108 108)) := (Below.refl _ _).alloc (Nat.le_refl _) _
      have HM0 := Lib.hid hm0
      have HB0 := Lib.hid hb0
      obtain ⟨ge, hge⟩ : ∃ ge, ge = w1.heap.size := ⟨_, rfl⟩
      have HGE := Lib.hid hge
      clear ha hm0 hb0
      go_wp2_with fail
      rw [← hge]
      rw [← hge] at HM0 HB0
      clear hge
      go_loopw [22] (fun x wr => ∃ i : Nat, i ≤ q ∧ x = .int .i64 i ∧ AtOk n (zs.take i) ∧ wr.heap[ge]? = some (.cells (metN 255 (zs.take i)) 108) ∧ Below ge w1 wr) (fun x _ => q - (intOf x).toNat)
      case atStart => exact ⟨0, by omega, rfl, AtOk.nil _, HM0.out, HB0.out⟩
      case round =>
        obtain ⟨i, hi, rfl, hok, hmet, hbel⟩ := hrel
        have hbel' : Below w1.heap.size w1 wr := by rw [← HGE.out]; exact hbel
        have hge : ge < wr.heap.size := by
          rcases Nat.lt_or_ge ge wr.heap.size with q | q
          · exact q
          · rw [Array.getElem?_eq_none q] at hmet; cases hmet
        by_cases hin : i < q
        · obtain ⟨ad, rfl, hcell⟩ := (HZ.out.below hbel').num hin
          have hth := there_R (HC.out.below hbel') (gz zs i)
          obtain ⟨z, hz⟩ : ∃ z, z = gz zs i := ⟨_, rfl⟩
          rw [← hz] at hcell hth
          have HZZ := Lib.hid hz
          have l1 : (0 : Int) ≤ (i : Int) := by omega
          have l2 : (i : Int) < (q : Int) := by omega
          have HOK := Lib.hid hok
          have HMET := Lib.hid hmet
          have HBEL := Lib.hid hbel
          have HBEL' := Lib.hid hbel'
          have HGL := Lib.hid hge
          clear hz hok hmet hbel hbel' hge
          go_wp2_with fail
          refine hth.mono ?_
          clear hth
          rintro e w2 ⟨rfl, hb2⟩
          have HB2 := Lib.hid (HBEL.out.trans (hb2.mono (by have := HGL.out; omega)))
          have HM2 := Lib.hid ((hb2.block ge HGL.out).trans HMET.out)
          clear hb2
          by_cases hr : 0 ≤ z ∧ z < (n : Int)
          · rw [decide_eq_true hr]
            obtain ⟨r0, r1⟩ := hr
            obtain ⟨p, rfl⟩ : ∃ p : Nat, z = (p : Int) := ⟨z.toNat, by omega⟩
            have hp : p < 255 := by omega
            have hmc : w2.cell? ⟨ge, p, none⟩ = some (.bool (decide ((p : Int) ∈ zs.take i))) := by rw [cell_of_row _ _ _ _ _ _ HM2.out]; exact metN_at hp
            have hmf : w2.frozen? ⟨ge, p, none⟩ = false := frozen_of_row _ _ _ _ _ HM2.out
            by_cases hmem : (p : Int) ∈ zs.take i
            · rw [decide_eq_true hmem] at hmc
              have HNO := Lib.hid (not_atok_mem (n := n) (zs := zs) (i := i) (by have := HLZ.out; omega) (by rw [← HZZ.out]; exact hmem))
              clear hmem r0 r1
              go_wp2_with fail
              go_ret
              exact ⟨3, rfl, (docWrong_3 HA.out HNO.out).symm, bthen HB.out (HGE.out ▸ HB2.out)⟩
            · rw [decide_eq_false hmem] at hmc
              have HOK2 := Lib.hid (AtOk.snoc (by have := HLZ.out; omega) HOK.out (by rw [← HZZ.out]; exact ⟨r0, r1⟩) (by rw [← HZZ.out]; exact hmem))
              have hset : (w2.setCell ⟨ge, p, none⟩ (.bool true)).heap[ge]? = some (.cells ((metN 255 (zs.take i)).setIfInBounds p (.bool true)) 108) := heap_setCell_same w2 ge p _ _ _ HM2.out
              have eq : metN 255 (zs.take (i + 1)) = (metN 255 (zs.take i)).setIfInBounds p (.bool true) := by
                rw [metN_set hp, take_snoc (by have := HLZ.out; omega), ← HZZ.out]
              have HM3 : Hid ((w2.setCell ⟨ge, p, none⟩ (.bool true)).heap[ge]? = some (.cells (metN 255 (zs.take (i + 1))) 108)) := Lib.hid (by rw [eq]; exact hset)
              have HB3 : Hid (Below ge w1 (w2.setCell ⟨ge, p, none⟩ (.bool true))) := Lib.hid (Below.setCell HB2.out (Nat.le_refl _) _)
              clear hmem hset eq
              go_wp2_with fail
              exact ⟨⟨i + 1, by omega, by go_num, HOK2.out, HM3.out, HB3.out⟩, by simp [intOf]; omega⟩
          · rw [decide_eq_false hr]
            have HNO : Hid (¬ AtOk n zs) := Lib.hid fun h => hr (by rw [HZZ.out]; exact h.range (by have := HLZ.out; omega))
            clear hr
            go_wp2_with fail
            go_ret
            exact ⟨3, rfl, (docWrong_3 HA.out HNO.out).symm, bthen HB.out (HGE.out ▸ HB2.out)⟩
        · obtain rfl : q = i := by omega
          have HOK : Hid (AtOk n zs) := Lib.hid (by rw [List.take_of_length_le (by have := HLZ.out; omega)] at hok; exact hok)
          have c1 := (HC.out.below hbel').c1
          have HBEL' := Lib.hid hbel'
          clear hok hmet hbel hbel' hge
          by_cases hlk : q < k
          · have t3 : decide ((q : Int) < (k : Int)) = true := decide_eq_true (by omega)
            have t4 : decide (q < k) = true := decide_eq_true hlk
            have HLK : Hid (zs.length < k) := Lib.hid (by have := HLZ.out; omega)
            go_wp2_with fail
            go_ret
            exact ⟨10, rfl, (docWrong_10 HA.out HOK.out HLK.out).symm, bthen HB.out HBEL'.out⟩
          · have t3 : decide ((q : Int) < (k : Int)) = false := decide_eq_false (by omega)
            have t4 : decide (q < k) = false := decide_eq_false hlk
            have HLK : Hid (¬ zs.length < k) := Lib.hid (by have := HLZ.out; omega)
            go_wp2_with fail
            go_ret
            exact ⟨0, rfl, (docWrong_0 HA.out HOK.out HLK.out).symm, bthen HB.out HBEL'.out⟩
    · have hbf : b = false := by
        cases b with
        | false => rfl
        | true => exact absurd (HBA.out.1 rfl) ha
      subst hbf
      have HA := Lib.hid ha
      clear ha
      go_wp2_with fail
      go_ret
      exact ⟨14, rfl, (docWrong_14 fun h => HA.out h.2).symm, HB.out⟩
  · have t1 : ((q : Int) != (q' : Int)) = true := by simp; omega
    have HN : Hid (zs.length ≠ m.length) := Lib.hid (by omega)
    clear H hz h hl hlz hqq
    go_enter Try.func69, Try.ntmps69
    go_wp2_with fail
    go_ret
    exact ⟨14, rfl, (docWrong_14 fun h => HN.out h.1).symm, Below.refl _ _⟩
end Go.Proofs.Ytoijjlpkoniipaa
