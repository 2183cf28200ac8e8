/- The law's same: a disk has just these sectors. -/
import Derived.Test.YtomihbanpjedeaaRefNew
namespace Go.Proofs.Ytomihbanpjedeaa
open Go.RowKit
set_option linter.unusedSimpArgs false
set_option maxHeartbeats 2000000 in
set_option maxRecDepth 100000 in
theorem law_same (F R : Nat → Prop) (d n c : Nat) (A : Option Addr) (s : St) (w : World) (h : Dk w F d n s) (hs : Rw w R A n s.nw) (hn : n ≤ 2048) :
    Calls Try.prog 28 #[.pointer (some ⟨d, 0, none⟩), .slice A n c] w fun e w' => e = .returned (.bool true) ∧ Below w.heap.size w w' := by
  have hlen := len_calls F d n s w h
  have H := Lib.hid h
  have HS := Lib.hid hs
  clear h hs
  have tt : ((n : Int) != (n : Int)) = false := by simp
  go_enter Try.func28, Try.ntmps28
  go_wp2_with fail
  refine hlen.mono ?_
  clear hlen
  rintro e w1 ⟨rfl, rfl⟩
  go_wp2_with fail
  clear tt
  go_loopw [19] (fun i wr => ∃ k : Nat, k ≤ n ∧ i = .int .i64 k ∧ Below w1.heap.size w1 wr) (fun i _ => n - (intOf i).toNat)
  case atStart => exact ⟨0, by omega, rfl, Below.refl _ _⟩
  case round =>
    obtain ⟨k, hk, rfl, hb⟩ := hrel
    by_cases hlt : k < n
    · have hdk := H.out.below hb
      obtain ⟨a, rfl, hRa, hrow⟩ := (HS.out.below hb).at_ (by omega)
      obtain ⟨B, cB, hcB, hRB, hcell, hbytes⟩ := hrow k hlt
      have hok := hdk.ok
      have hlk := sec_length hok.nl hlt
      have hby := sec_bytes hok.nb k
      have hrd := read_in F d n k s wr hdk hlt hn
      have i1 : (0 : Int) ≤ (k : Int) := by omega
      have i2 : (k : Int) < (n : Int) := by omega
      have HBY := Lib.hid hbytes
      have HBB := Lib.hid hby
      have HLK := Lib.hid hlk
      clear hdk hrow hbytes hok hlk hby
      generalize hks : sec s.nw k = ks at *
      clear hks
      go_wp2_with fail
      refine hrd.mono ?_
      clear hrd
      rintro e w2 ⟨rfl, rfl⟩
      have hba : Below wr.heap.size wr (wr.alloc (.cells ks.toArray 78)) := (Below.refl _ _).alloc (Nat.le_refl _) _
      have hsame := same_bytes (some ⟨wr.heap.size, 0, none⟩) (some B) 64 64 cB ks (wr.alloc (.cells ks.toArray 78)) ⟨HBB.out, fun _ => ⟨_, rfl, fun j u hj => by
        rw [Addr.add_lit, Nat.zero_add, cell_of_row _ _ j _ _ _ (heap_alloc_new wr _)]; simpa using hj⟩⟩ ⟨HBB.out, fun _ => ⟨_, rfl, fun j u hj => pw_cell_below hba (HBY.out j u hj)⟩⟩ HLK.out (by omega)
      have hcell2 := pw_cell_below hba hcell
      have HBA := Lib.hid (hb.trans (hba.mono hb.size))
      clear hcell hba
      go_wp2_with fail
      refine hsame.mono ?_
      clear hsame
      rintro e w3 ⟨rfl, q, rfl⟩
      have hq := HBA.out
      have HQ : Hid (Below w1.heap.size w1 ((wr.alloc (.cells ks.toArray 78)).drewN q)) := Lib.hid ⟨hq.os, hq.tape, hq.output, hq.size, hq.block⟩
      clear hq hcell2 hcB hRB hRa
      go_wp2_with fail
      exact ⟨⟨k + 1, by omega, by go_num, HQ.out⟩, by simp [intOf]; omega⟩
    · obtain rfl : k = n := by omega
      have hr1 := read_out F d k (k : Int) s wr (H.out.below hb) (by omega)
      have hr2 := read_out F d k (-1) s wr (H.out.below hb) (by omega)
      have HB := Lib.hid hb
      clear hb
      go_wp2_with fail
      refine hr1.mono ?_
      clear hr1
      rintro e w2 ⟨rfl, rfl⟩
      go_wp2_with fail
      refine hr2.mono ?_
      clear hr2
      rintro e w2 ⟨rfl, rfl⟩
      go_wp2_with fail
      go_ret
      exact ⟨rfl, HB.out⟩
end Go.Proofs.Ytomihbanpjedeaa
