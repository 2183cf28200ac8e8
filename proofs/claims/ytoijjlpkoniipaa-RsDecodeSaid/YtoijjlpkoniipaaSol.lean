/- Joined out of texts of this claim: SolMem, SolSt, SolW. Each says what it proves, and its conditions. -/
import Derived.Test.YtoijjlpkoniipaaRefRs
import Derived.Test.YtoijjlpkoniipaaRsAgain
set_option linter.unusedVariables false
set_option linter.unusedSimpArgs false
section
/- Lists of rows in memory, every row in a block of its own: bytes written, rows exchanged. -/
set_option linter.unusedVariables false
set_option linter.unusedSimpArgs false
namespace Go.Proofs.Ytoijjlpkoniipaa
open Go.RowKit Go.Proofs.YtoijjlpkoniipaaW.PrintWords Go.Proofs.YtoijjlpkoniipaaW.PrintLast Gf Lin
/-- A row of c bytes, block b its own, in [lo, hi). -/
structure Ro (w : World) (lo hi : Nat) (A : Option Addr) (c cp b : Nat) (r : Nat → UInt8) : Prop where
  le : c ≤ cp
  at_ : 0 < c → A = some ⟨b, 0, none⟩
  lo_ : 0 < c → lo ≤ b ∧ b < hi
  cell : ∀ j, j < c → w.cell? ⟨b, j, none⟩ = some (.int .u8 ((r j).toNat : Int))
  frz : 0 < c → ∀ j, w.frozen? ⟨b, j, none⟩ = false
/-- Block g (in [lo, hi)) holds n rows of c bytes, row i in block bk i. -/
structure Ls (w : World) (lo hi g n c : Nat) (A : Nat → Option Addr) (cp bk : Nat → Nat) (M : Lin.M) : Prop where
  head : ∀ i, i < n → w.cell? ⟨g, i, none⟩ = some (.slice (A i) c (cp i))
  fg : ∀ j, w.frozen? ⟨g, j, none⟩ = false
  row : ∀ i, i < n → Ro w lo hi (A i) c (cp i) (bk i) (M i)
  lg : lo ≤ g ∧ g < hi
  ne : 0 < c → ∀ i, i < n → bk i ≠ g
  inj : 0 < c → ∀ i, i < n → ∀ k, k < n → bk i = bk k → i = k
theorem Ro.keep {w w1 : World} {lo hi : Nat} {A : Option Addr} {c cp b : Nat} {r : Nat → UInt8} (h : Ro w lo hi A c cp b r) (hk : 0 < c → w1.heap[b]? = w.heap[b]?) : Ro w1 lo hi A c cp b r :=
  ⟨h.le, h.at_, h.lo_, fun j hj => (World.cell?_of_block (a := ⟨b, j, none⟩) (hk (by omega))).trans (h.cell j hj), fun hc j => (World.frozen?_of_block (a := ⟨b, j, none⟩) (hk hc)).trans (h.frz hc j)⟩
theorem Ro.congr {w : World} {lo hi : Nat} {A : Option Addr} {c cp b : Nat} {r s : Nat → UInt8} (h : Ro w lo hi A c cp b r) (he : ∀ j, j < c → s j = r j) : Ro w lo hi A c cp b s :=
  ⟨h.le, h.at_, h.lo_, fun j hj => by rw [he j hj]; exact h.cell j hj, h.frz⟩
theorem Ls.keep {w w1 : World} {lo hi g n c : Nat} {A : Nat → Option Addr} {cp bk : Nat → Nat} {M : Lin.M} (h : Ls w lo hi g n c A cp bk M) (hk : ∀ k, lo ≤ k → k < hi → w1.heap[k]? = w.heap[k]?) : Ls w1 lo hi g n c A cp bk M :=
  ⟨fun i hi' => (World.cell?_of_block (a := ⟨g, i, none⟩) (hk g h.lg.1 h.lg.2)).trans (h.head i hi'), fun j => (World.frozen?_of_block (a := ⟨g, j, none⟩) (hk g h.lg.1 h.lg.2)).trans (h.fg j),
   fun i hi' => (h.row i hi').keep (fun hc => hk _ ((h.row i hi').lo_ hc).1 ((h.row i hi').lo_ hc).2), h.lg, h.ne, h.inj⟩
theorem Ls.below {w w1 : World} {lo hi g n c : Nat} {A : Nat → Option Addr} {cp bk : Nat → Nat} {M : Lin.M} (h : Ls w lo hi g n c A cp bk M) (hh : hi ≤ w.heap.size) (hb : Below w.heap.size w w1) : Ls w1 lo hi g n c A cp bk M :=
  h.keep fun k _ h2 => hb.block k (by omega)
theorem Ls.congr {w : World} {lo hi g n c : Nat} {A : Nat → Option Addr} {cp bk : Nat → Nat} {M M' : Lin.M} (h : Ls w lo hi g n c A cp bk M) (he : ∀ i, i < n → ∀ j, j < c → M' i j = M i j) : Ls w lo hi g n c A cp bk M' :=
  ⟨h.head, h.fg, fun i hi => (h.row i hi).congr (he i hi), h.lg, h.ne, h.inj⟩
/-- One byte written into row i. -/
theorem Ls.set {w : World} {lo hi g n c : Nat} {A : Nat → Option Addr} {cp bk : Nat → Nat} {M : Lin.M} (h : Ls w lo hi g n c A cp bk M) {i j : Nat} (hi' : i < n) (hj : j < c) (v : UInt8) :
    Ls (w.setCell ⟨bk i, j, none⟩ (.int .u8 (v.toNat : Int))) lo hi g n c A cp bk (updM M i j v) := by
  have hc : 0 < c := by omega
  refine ⟨fun a ha => ?_, fun a => by simpa using h.fg a, fun a ha => ⟨(h.row a ha).le, (h.row a ha).at_, (h.row a ha).lo_, fun b hb => ?_, fun _ b => by simpa using (h.row a ha).frz hc b⟩, h.lg, h.ne, h.inj⟩
  · rw [World.cell?_setCell_other _ _ _ _ (fun e => h.ne hc i hi' (by injection e))]; exact h.head a ha
  · unfold updM
    by_cases hai : a = i
    · subst hai
      rw [set_at ((h.row a ha).cell j hj)]
      by_cases hbj : b = j
      · rw [if_pos hbj, if_pos ⟨rfl, hbj⟩]
      · rw [if_neg hbj, if_neg (fun e => hbj e.2)]; exact (h.row a ha).cell b hb
    · rw [World.cell?_setCell_other _ _ _ _ (fun e => hai (h.inj hc a ha i hi' (by injection e with e; exact e.symm))), if_neg (fun e => hai e.1)]
      exact (h.row a ha).cell b hb
/-- Two exchanged. -/
def sw {α : Type} (a b : Nat) (f : Nat → α) : Nat → α := fun i => if i = a then f b else if i = b then f a else f i
theorem sw_inj {a b n : Nat} {f : Nat → Nat} (ha : a < n) (hb : b < n) (h : ∀ i, i < n → ∀ k, k < n → f i = f k → i = k) : ∀ i, i < n → ∀ k, k < n → sw a b f i = sw a b f k → i = k := by
  have e : ∀ i, sw a b f i = f (swp a b id i) := fun i => by
    unfold sw swp
    by_cases h1 : i = a
    · rw [if_pos h1, if_pos h1]; rfl
    · rw [if_neg h1, if_neg h1]
      by_cases h2 : i = b
      · rw [if_pos h2, if_pos h2]; rfl
      · rw [if_neg h2, if_neg h2]; rfl
  intro i hi k hk he
  have hp := (perm_id n).swp ha hb
  rw [e, e] at he
  exact hp.2 i hi k hk (h _ (hp.1 i hi) _ (hp.1 k hk) he)
theorem Ls.swap {w : World} {lo hi g n c : Nat} {A : Nat → Option Addr} {cp bk : Nat → Nat} {M : Lin.M} (h : Ls w lo hi g n c A cp bk M) {a b : Nat} (ha : a < n) (hb : b < n) :
    Ls ((w.setCell ⟨g, a, none⟩ (.slice (A b) c (cp b))).setCell ⟨g, b, none⟩ (.slice (A a) c (cp a))) lo hi g n c (sw a b A) (sw a b cp) (sw a b bk) (swapRow a b M) ∧
    (w.setCell ⟨g, a, none⟩ (.slice (A b) c (cp b))).cell? ⟨g, b, none⟩ = some (.slice (A b) c (cp b)) := by
  have hmid : (w.setCell ⟨g, a, none⟩ (.slice (A b) c (cp b))).cell? ⟨g, b, none⟩ = some (.slice (A b) c (cp b)) := by
    rw [set_at (h.head a ha)]
    by_cases hik : b = a
    · rw [if_pos hik]
    · rw [if_neg hik]; exact h.head b hb
  have hk : ∀ i, i < n → Ro w lo hi (A i) c (cp i) (bk i) (M i) → Ro ((w.setCell ⟨g, a, none⟩ (.slice (A b) c (cp b))).setCell ⟨g, b, none⟩ (.slice (A a) c (cp a))) lo hi (A i) c (cp i) (bk i) (M i) := fun i hi' hr =>
    hr.keep fun hc => (Below.heap_setCell _ _ _ _ (h.ne hc i hi')).trans (Below.heap_setCell _ _ _ _ (h.ne hc i hi'))
  refine ⟨⟨fun i hi' => ?_, fun j => by simpa using h.fg j, fun i hi' => ?_, h.lg, fun hc i hi' => ?_, fun hc => sw_inj ha hb (h.inj hc)⟩, hmid⟩
  · rw [set_at hmid, set_at (h.head a ha)]
    unfold sw
    by_cases a2 : i = b
    · rw [if_pos a2]
      by_cases a1 : i = a
      · have : a = b := by omega
        subst this
        rw [if_pos a1, if_pos a1]
      · rw [if_neg a1, if_neg a1, if_pos a2, if_pos a2]
    · rw [if_neg a2]
      by_cases a1 : i = a
      · rw [if_pos a1, if_pos a1, if_pos a1]
      · rw [if_neg a1, if_neg a1, if_neg a1, if_neg a2, if_neg a2]; exact h.head i hi'
  · unfold sw swapRow
    by_cases a1 : i = a
    · simp only [if_pos a1]; exact (hk b hb (h.row b hb)).congr (fun j _ => rfl)
    · simp only [if_neg a1]
      by_cases a2 : i = b
      · simp only [if_pos a2]; exact (hk a ha (h.row a ha)).congr (fun j _ => rfl)
      · simp only [if_neg a2]; exact (hk i hi' (h.row i hi')).congr (fun j _ => rfl)
  · unfold sw
    split
    · exact h.ne hc b hb
    · split
      · exact h.ne hc a ha
      · exact h.ne hc i hi'
theorem Ls.rs {w : World} {lo hi g n c : Nat} {A : Nat → Option Addr} {cp bk : Nat → Nat} {M : Lin.M} (h : Ls w lo hi g n c A cp bk M) (hc2 : c ≤ 9223372036854775807) {i : Nat} (hi' : i < n) : RS w (A i) c (cp i) ((List.range c).map (M i)) := by
  refine ⟨(h.row i hi').le, ?_⟩
  have := C_of_cells (w := w) (A := A i) ((List.range c).map (M i)) (by simpa using hc2) (fun hp => ⟨_, (h.row i hi').at_ (by simpa using hp), fun j hj => by
    have hj' : j < c := by simpa using hj
    rw [gb_range _ hj', ← (h.row i hi').cell j hj']
    congr 1
    rw [add_at]⟩)
  simpa using this
theorem Ls.rd {w : World} {lo hi g n c cap : Nat} {A : Nat → Option Addr} {cp bk : Nat → Nat} {M : Lin.M} (h : Ls w lo hi g n c A cp bk M) (hc2 : c ≤ 9223372036854775807) (hn : n ≤ 9223372036854775807) (hnc : n ≤ cap) : RD w (some ⟨g, 0, none⟩) n cap (rowsOf n c M) := by
  refine ⟨hnc, ?_⟩
  have := CC_of_cells (w := w) (A := some ⟨g, 0, none⟩) (rowsOf n c M) (by simpa using hn) (fun hp => ⟨_, rfl, fun j hj => by
    have hj' : j < n := by simpa using hj
    have hr := h.rs hc2 hj'
    refine ⟨A j, cp j, ?_, ?_, ?_⟩
    · rw [gr_rowsOf _ hj', List.length_map, List.length_range, add_at]
      exact h.head j hj'
    · rw [gr_rowsOf _ hj', List.length_map, List.length_range]; exact hr.le
    · rw [gr_rowsOf _ hj', List.length_map, List.length_range]; exact hr.rd⟩)
  simpa using this
/-- A list that the print's words tell apart. -/
theorem Ls.of_S {w : World} {base : Nat} {ok : Nat → Prop} {v : Value} {m : List (List UInt8)} {c : Nat} (h : Kd.S KBB 35 w base ok v (bss m)) (hn : 0 < m.length) (hc : ∀ r ∈ m, r.length = c) :
    ∃ g cap A cp bk, v = .slice (some ⟨g, 0, none⟩) m.length cap ∧ m.length ≤ cap ∧ Ls w base w.heap.size g m.length c A cp bk (fn m) := by
  have hl : (bss m).length = m.length := by simp
  obtain ⟨g, cap, rfl, hbg, hgl, hcells⟩ := Kd.S_form h (by rw [hl]; exact hn)
  rw [hl] at h ⊢
  have hcap := (Kd.S_reads' h).2.1
  obtain ⟨f, hR⟩ := h
  have key : ∀ i : Nat, ∃ q : (Option Addr × Nat) × Nat, i < m.length → w.cell? ⟨g, i, none⟩ = some (.slice q.1.1 c q.1.2) ∧ (∀ j, w.frozen? ⟨g, i + j, none⟩ = false) ∧ Ro w base w.heap.size q.1.1 c q.1.2 q.2 (fn m i) ∧ (0 < c → q.2 ≠ g) ∧ (0 < c → f q.2 = i) := fun i => by
    by_cases hi : i < m.length
    · obtain ⟨cs, hcl, hM, hcc, hfr⟩ := Kd.R_elem hR ([], 0) (i : Int) (by omega) (by omega)
      have hget : (bss m).zipIdx.getD (i : Int).toNat ([], 0) = (bs (gr m i), i) := by
        rw [Int.toNat_natCast, List.getD_eq_getElem?_getD, List.getElem?_zipIdx]
        have : (bss m)[i]? = some (bs (gr m i)) := by unfold bss; rw [List.getElem?_map, List.getElem?_eq_getElem hi, gr_at hi]; rfl
        rw [this]; simp
      rw [hget] at hM
      obtain ⟨v, rfl, hv⟩ := hM
      have hlen : (gr m i).length = c := by rw [gr_at hi]; exact hc _ (List.getElem_mem _)
      obtain ⟨A, cp, rfl, hle, hrd⟩ := Kd.R_reads hv
      have hbl : (bs (gr m i)).length = c := by rw [bs_length]; exact hlen
      rw [hbl] at hle hrd hv hcc
      have hcell : w.cell? ⟨g, i, none⟩ = some (.slice A c cp) := by
        have := hcc 0 (.slice A c cp) rfl
        simpa [Kd.tag, Kd.slice] using this
      have hfz : ∀ j, w.frozen? ⟨g, i + j, none⟩ = false := fun j => by
        have := hfr j
        simpa [Kd.tag, Kd.slice] using this
      by_cases hc0 : 0 < c
      · obtain ⟨b, cp', e, hb1, hb2, _⟩ := Kd.R_form hv (by rw [hbl]; exact hc0)
        rw [hbl] at e
        injection e with e1 _ e3
        subst e1
        subst e3
        have hok := hv.1 b rfl
        refine ⟨((some ⟨b, 0, none⟩, cp), b), fun _ => ⟨hcell, hfz, ⟨hle, fun _ => rfl, fun _ => ⟨hb1, hb2⟩, fun j hj => ?_, fun _ j => ?_⟩, fun _ => hok.1.2, fun _ => hok.2⟩⟩
        · obtain ⟨cs', _, hM', hcc', _⟩ := Kd.R_elem hv 0 (j : Int) (by omega) (by omega)
          have hg' : (bs (gr m i)).getD (j : Int).toNat 0 = ((fn m i j).toNat : Int) := by
            rw [Int.toNat_natCast]
            unfold fn bs
            rw [List.getD_eq_getElem?_getD, List.getElem?_map, List.getElem?_eq_getElem (by omega), gb_at (by omega)]; rfl
          rw [hg'] at hM'
          have hM'' : cs' = [Value.int .u8 ((fn m i j).toNat : Int)] := hM'
          subst hM''
          have := hcc' 0 _ rfl
          simpa [Kd.int, Kd.scalar] using this
        · obtain ⟨_, _, _, _, hfr'⟩ := Kd.R_elem hv 0 (0 : Int) (by omega) (by omega)
          have := hfr' j
          simpa [Kd.int, Kd.scalar] using this
      · exact ⟨((A, cp), 0), fun _ => ⟨hcell, hfz, ⟨hle, fun h => absurd h hc0, fun h => absurd h hc0, fun j hj => absurd hj (by omega), fun h => absurd h hc0⟩, fun h => absurd h hc0, fun h => absurd h hc0⟩⟩
    · exact ⟨((none, 0), 0), fun h => absurd h hi⟩
  obtain ⟨q, hq⟩ := Classical.axiomOfChoice key
  refine ⟨g, cap, fun i => (q i).1.1, fun i => (q i).1.2, fun i => (q i).2, rfl, hcap, ⟨fun i hi => (hq i hi).1, fun j => ?_, fun i hi => (hq i hi).2.2.1, ⟨hbg, hgl⟩, fun hc0 i hi => (hq i hi).2.2.2.1 hc0, fun hc0 i hi k hk e => ?_⟩⟩
  · have := (hq 0 hn).2.1 j
    simpa using this
  · have h1 := (hq i hi).2.2.2.2 hc0
    have h2 := (hq k hk).2.2.2.2 hc0
    have e' : (q i).2 = (q k).2 := e
    rw [e'] at h1
    exact h1.symm.trans h2
end Go.Proofs.Ytoijjlpkoniipaa
end
section
/- The document's Solve: its two lists in memory, and the plain steps of it. -/
set_option linter.unusedVariables false
set_option linter.unusedSimpArgs false
namespace Go.Proofs.Ytoijjlpkoniipaa
open Go.RowKit Go.Proofs.YtoijjlpkoniipaaW.PrintWords Go.Proofs.YtoijjlpkoniipaaW.PrintLast Gf Lin
/-- The first j bytes of a row multiplied. -/
def scaleTo (r : Nat) (c : UInt8) (j : Nat) (M : Lin.M) : Lin.M := fun x b => if x = r ∧ b < j then gm c (M x b) else M x b
theorem scaleTo_zero (r : Nat) (c : UInt8) (M : Lin.M) : scaleTo r c 0 M = M := by funext x b; unfold scaleTo; rw [if_neg (by omega)]
theorem scaleTo_at {r j : Nat} (c : UInt8) (M : Lin.M) : scaleTo r c j M r j = M r j := by unfold scaleTo; rw [if_neg (by omega)]
theorem scaleTo_step {r j : Nat} (c : UInt8) (M : Lin.M) (x b : Nat) : scaleTo r c (j + 1) M x b = updM (scaleTo r c j M) r j (gm c (M r j)) x b := by
  show (if x = r ∧ b < j + 1 then gm c (M x b) else M x b) = (if x = r ∧ b = j then gm c (M r j) else (if x = r ∧ b < j then gm c (M x b) else M x b))
  by_cases hx : x = r
  · subst hx
    by_cases hb : b = j
    · subst hb; rw [if_pos ⟨rfl, by omega⟩, if_pos ⟨rfl, rfl⟩]
    · rw [if_neg (c := x = x ∧ b = j) (fun e => hb e.2)]
      by_cases h : b < j
      · rw [if_pos ⟨rfl, by omega⟩, if_pos ⟨rfl, h⟩]
      · rw [if_neg (by omega), if_neg (by omega)]
  · rw [if_neg (fun e => hx e.1), if_neg (fun e => hx e.1), if_neg (fun e => hx e.1)]
theorem scaleTo_done {r c : Nat} (u : UInt8) (M : Lin.M) (x b : Nat) (hb : b < c) : scaleRow r u M x b = scaleTo r u c M x b := by
  unfold scaleRow scaleTo
  by_cases hx : x = r
  · rw [if_pos hx, if_pos ⟨hx, hb⟩]
  · rw [if_neg hx, if_neg (fun e => hx e.1)]
theorem swapRow_comm (a b : Nat) (M : Lin.M) : swapRow a b M = swapRow b a M := by
  funext i j
  unfold swapRow
  by_cases h1 : i = a
  · subst h1
    by_cases h2 : i = b
    · subst h2; rfl
    · rw [if_pos rfl, if_neg h2, if_pos rfl]
  · rw [if_neg h1]
    by_cases h2 : i = b
    · rw [if_pos h2, if_pos h2]
    · rw [if_neg h2, if_neg h2, if_neg h1]
/-- The first row from r on whose column c is not 0. -/
theorem first_row {n c : Nat} {M : Lin.M} : ∀ (d r : Nat), n - r = d → (∃ a, r ≤ a ∧ a < n ∧ M a c ≠ 0) → ∃ a, r ≤ a ∧ a < n ∧ M a c ≠ 0 ∧ ∀ b, r ≤ b → b < a → M b c = 0 := by
  intro d
  induction d with
  | zero => intro r hd ⟨a, h1, h2, _⟩; omega
  | succ d ih =>
    intro r hd ⟨a, h1, h2, h3⟩
    by_cases hr : M r c = 0
    · have hra : r ≠ a := fun e => h3 (by rw [← e]; exact hr)
      obtain ⟨a', q1, q2, q3, q4⟩ := ih (r + 1) (by omega) ⟨a, by omega, h2, h3⟩
      refine ⟨a', by omega, q2, q3, fun b hb1 hb2 => ?_⟩
      by_cases hbr : b = r
      · rw [hbr]; exact hr
      · exact q4 b (by omega) hb2
    · exact ⟨r, Nat.le_refl _, by omega, hr, fun b hb1 hb2 => by omega⟩
/-- A code's rows never come to a column without a pivot. -/
theorem pivot {k n : Nat} {zs : List Int} (hk1 : 1 ≤ k) (hk : k ≤ n) (hn : n ≤ 255) (hz : AtOk n zs) (hl : k ≤ zs.length) {B M S : Lin.M} (h : Rel k (pickM k zs) B M S) {col : Nat} (hc : col < k) (hcl : Cols k col id M) :
    ∃ a, col ≤ a ∧ a < k ∧ M a col ≠ 0 ∧ ∀ b, col ≤ b → b < a → M b col = 0 := by
  refine first_row (k - col) col rfl ?_
  apply Classical.byContradiction
  intro hno
  obtain ⟨x, hx0, hx⟩ := stuck_kernel hc hcl (fun a h1 h2 => Classical.byContradiction fun h3 => hno ⟨a, h1, h2, h3⟩)
  exact hx0 (pick_full' hk1 hk hn hz hl (h.kernel (k := k) x hx) col hc)
/-- The two lists. -/
structure Sv (w0 w : World) (lo mid hi gm_ gl k L : Nat) (M S : Lin.M) : Prop where
  m : ∃ A cp bk, Ls w lo mid gm_ k k A cp bk M
  l : ∃ A cp bk, Ls w mid hi gl k L A cp bk S
  b0 : w0.heap.size ≤ lo
  lm : lo ≤ mid ∧ mid ≤ hi
  hh : hi ≤ w.heap.size
  bel : Below w0.heap.size w0 w
variable {w0 w w1 : World} {lo mid hi gm_ gl k L : Nat} {M S M' S' : Lin.M} {A : Nat → Option Addr} {cp bk : Nat → Nat}
theorem Sv.below (h : Sv w0 w lo mid hi gm_ gl k L M S) (hb : Below w.heap.size w w1) : Sv w0 w1 lo mid hi gm_ gl k L M S := by
  obtain ⟨⟨A, cp, bk, h1⟩, ⟨A', cp', bk', h2⟩, h3, h4, h5, h6⟩ := h
  exact ⟨⟨A, cp, bk, h1.below (by omega) hb⟩, ⟨A', cp', bk', h2.below h5 hb⟩, h3, h4, Nat.le_trans h5 hb.size, bthen h6 hb⟩
theorem Sv.congr (h : Sv w0 w lo mid hi gm_ gl k L M S) (hm : ∀ i, i < k → ∀ j, j < k → M' i j = M i j) (hs : ∀ i, i < k → ∀ j, j < L → S' i j = S i j) : Sv w0 w lo mid hi gm_ gl k L M' S' := by
  obtain ⟨⟨A, cp, bk, h1⟩, ⟨A', cp', bk', h2⟩, h3, h4, h5, h6⟩ := h
  exact ⟨⟨A, cp, bk, h1.congr hm⟩, ⟨A', cp', bk', h2.congr hs⟩, h3, h4, h5, h6⟩
theorem Sv.setM (h : Sv w0 w lo mid hi gm_ gl k L M S) (hm : Ls w lo mid gm_ k k A cp bk M) {i j : Nat} (hi' : i < k) (hj : j < k) (v : UInt8) :
    Sv w0 (w.setCell ⟨bk i, j, none⟩ (.int .u8 (v.toNat : Int))) lo mid hi gm_ gl k L (updM M i j v) S := by
  obtain ⟨_, ⟨A', cp', bk', h2⟩, h3, h4, h5, h6⟩ := h
  have hb := (hm.row i hi').lo_ (by omega)
  exact ⟨⟨A, cp, bk, hm.set hi' hj v⟩, ⟨A', cp', bk', h2.keep fun q h7 h8 => Below.heap_setCell _ _ _ _ (by show q ≠ bk i; omega)⟩, h3, h4, by simpa using h5, h6.setCell (by show w0.heap.size ≤ bk i; omega) _⟩
theorem Sv.setS (h : Sv w0 w lo mid hi gm_ gl k L M S) (hl : Ls w mid hi gl k L A cp bk S) {i j : Nat} (hi' : i < k) (hj : j < L) (v : UInt8) :
    Sv w0 (w.setCell ⟨bk i, j, none⟩ (.int .u8 (v.toNat : Int))) lo mid hi gm_ gl k L M (updM S i j v) := by
  obtain ⟨⟨A', cp', bk', h2⟩, _, h3, h4, h5, h6⟩ := h
  have hb := (hl.row i hi').lo_ (by omega)
  exact ⟨⟨A', cp', bk', h2.keep fun q h7 h8 => Below.heap_setCell _ _ _ _ (by show q ≠ bk i; omega)⟩, ⟨A, cp, bk, hl.set hi' hj v⟩, h3, h4, by simpa using h5, h6.setCell (by show w0.heap.size ≤ bk i; omega) _⟩
theorem Sv.swapM (h : Sv w0 w lo mid hi gm_ gl k L M S) (hm : Ls w lo mid gm_ k k A cp bk M) {a b : Nat} (ha : a < k) (hb : b < k) :
    Sv w0 ((w.setCell ⟨gm_, a, none⟩ (.slice (A b) k (cp b))).setCell ⟨gm_, b, none⟩ (.slice (A a) k (cp a))) lo mid hi gm_ gl k L (swapRow a b M) S := by
  obtain ⟨_, ⟨A', cp', bk', h2⟩, h3, h4, h5, h6⟩ := h
  have hg := hm.lg
  exact ⟨⟨_, _, _, (hm.swap ha hb).1⟩, ⟨A', cp', bk', h2.keep fun q h7 h8 => (Below.heap_setCell _ _ _ _ (by show q ≠ gm_; omega)).trans (Below.heap_setCell _ _ _ _ (by show q ≠ gm_; omega))⟩, h3, h4, by simpa using h5,
    (h6.setCell (p := ⟨gm_, a, none⟩) (by show w0.heap.size ≤ gm_; omega) _).setCell (p := ⟨gm_, b, none⟩) (by show w0.heap.size ≤ gm_; omega) _⟩
theorem Sv.swapS (h : Sv w0 w lo mid hi gm_ gl k L M S) (hl : Ls w mid hi gl k L A cp bk S) {a b : Nat} (ha : a < k) (hb : b < k) :
    Sv w0 ((w.setCell ⟨gl, a, none⟩ (.slice (A b) L (cp b))).setCell ⟨gl, b, none⟩ (.slice (A a) L (cp a))) lo mid hi gm_ gl k L M (swapRow a b S) := by
  obtain ⟨⟨A', cp', bk', h2⟩, _, h3, h4, h5, h6⟩ := h
  have hg := hl.lg
  exact ⟨⟨A', cp', bk', h2.keep fun q h7 h8 => (Below.heap_setCell _ _ _ _ (by show q ≠ gl; omega)).trans (Below.heap_setCell _ _ _ _ (by show q ≠ gl; omega))⟩, ⟨_, _, _, (hl.swap ha hb).1⟩, h3, h4, by simpa using h5,
    (h6.setCell (p := ⟨gl, a, none⟩) (by show w0.heap.size ≤ gl; omega) _).setCell (p := ⟨gl, b, none⟩) (by show w0.heap.size ≤ gl; omega) _⟩
end Go.Proofs.Ytoijjlpkoniipaa
end
section
/- The document's Solve, walked by hand: rows are exchanged in memory. -/
set_option linter.unusedVariables false
set_option linter.unusedSimpArgs false
namespace Go.Proofs.Ytoijjlpkoniipaa
open Go.RowKit Go.Proofs.YtoijjlpkoniipaaW.PrintWords Go.Proofs.YtoijjlpkoniipaaW.PrintLast Go.Proofs.YtoijjlpkoniipaaW.PrintMore Gf Lin
attribute [local go_sem] max2_int min2_int max_two min_two
theorem bss_snoc (i k : Nat) (M : Lin.M) : bss (rowsOf (i + 1) k M) = bss (rowsOf i k M) ++ [bs ((List.range k).map (M i))] := by
 unfold rowsOf bss
 rw [List.range_succ]; simp
theorem addRow_zero (i c : Nat) (M : Lin.M) : addRow i c 0 M = M := by funext a b; unfold addRow; rw [gm_zero_left]; split <;> simp
theorem bss_len (i k : Nat) (M : Lin.M) : (bss (rowsOf i k M)).length = i := by simp
set_option maxHeartbeats 8000000 in
set_option maxRecDepth 100000 in
theorem rsolve_R {w : World} {k n : Nat} (hk1 : 1 ≤ k) (hkn : k ≤ n) (hn : n ≤ 255) {zs : List Int} (hz : AtOk n zs) (hlz : k ≤ zs.length) {m : List (List UInt8)} (hlm : k ≤ m.length) (ha : Alike m) {B : Option Addr} {q c : Nat} (hZ : RI w B q c zs) {C : Option Addr} {q' c' : Nat} (hM : RD w C q' c' m) (hq' : q' ≤ 1000) (hL : ∀ r ∈ m, r.length ≤ 1000) :
  Calls Try.prog 75 #[.int .i64 (k : Int), .slice B q c, .slice C q' c'] w fun e w' => ∃ D d Mf S, e = .returned (.slice D k d) ∧ RD w' D k d (rowsOf k (m.headD []).length S) ∧ Rel k (pickM k zs) (fn m) Mf S ∧ (∀ i, i < k → ∀ j, j < k → Mf i j = Lin.unit i j) ∧ Below w.heap.size w w' := by
 have HZ := Lib.hid hZ
 have HM := Lib.hid hM
 have HOK := Lib.hid hz
 have HAL := Lib.hid ha
 have HLL := Lib.hid hL
 have hlq : k ≤ q := by have := hZ.len; omega
 have hlq' : k ≤ q' := by have := hM.len; omega
 have hk2 : k ≤ 255 := by omega
 obtain ⟨bd, hB, _⟩ := hZ.num (k := 0) (by omega)
 subst hB
 obtain ⟨pd, _, _, hC, _⟩ := hM.row (k := 0) (by omega)
 subst hC
 have hkc : k ≤ c' := by have := hM.le; omega
 have HLL2 : Hid ((m.headD []).length ≤ 1000) := Lib.hid (by
  cases m with
  | nil => simp
  | cons r m => have := hL r (by simp); simpa using this)
 have HLZ : Hid (zs.length = q ∧ m.length = q') := Lib.hid ⟨hZ.len, hM.len⟩
 clear hZ hM hz ha hL hlz hlm
 go_enter Try.func75, Try.ntmps75
 go_wp2_with fail
 go_loopw [7, 8] (fun v x wr => ∃ i : Nat, i ≤ k ∧ x = .int .i64 i ∧ Kd.S KBB 35 wr w.heap.size (fun _ => True) v (bss (rowsOf i k (pickM k zs))) ∧ Below w.heap.size w wr) (fun _ x _ => k - (intOf x).toNat)
 case atStart => exact ⟨0, by omega, rfl, Kd.S_nil _ _ _ _ _, Below.refl _ _⟩
 case round =>
  obtain ⟨i, hi, rfl, hS, hbel⟩ := hrel
  by_cases hik : i < k
  ·obtain ⟨ad', e', hcell⟩ := (HZ.out.below hbel).num (k := i) (by omega)
   cases e'
   obtain ⟨z0, z1⟩ := HOK.out.range (i := i) (by have := HLZ.out; omega)
   obtain ⟨p, hp⟩ : ∃ p, p = (gz zs i).toNat := ⟨_, rfl⟩
   have hpz : gz zs i = (p : Int) := by omega
   have hpn : p < n := by omega
   rw [hpz] at hcell
   obtain ⟨f, hf⟩ := (PRsEncode.row_ev hk1 hkn hn hpn).at
   obtain ⟨r, hr⟩ : ∃ r, r = bs ((List.range k).map (codeM k p)) := ⟨_, rfl⟩
   rw [← hr] at hf
   have hrl : r.length = k := by rw [hr]; simp
   have HR : Hid (r = bs ((List.range k).map (pickM k zs i))) := Lib.hid (by rw [hr, hp]; rfl)
   have i0 : (0 : Int) ≤ (i : Int) := by omega
   have i1 : (i : Int) < (q : Int) := by omega
   have HP := Lib.hid hpz
   have hcl := PRsEncode.scriniumref09_Row.calls f k p r wr hf
   clear hr hf hpz hp z0 z1
   have HS := Lib.hid hS
   have HB := Lib.hid hbel
   clear hS hbel
   go_wp2_with fail
   refine hcl.mono ?_
   clear hcl hcell
   rintro e w1 ⟨u, rfl, ho, hb⟩
   have HS2 := Aside0.mk (Kd.S_elder' HS.out (Kd.R_base ho) hb)
   have HB2 := Aside0.mk (below_step HB.out hb)
   have HO := Aside0.mk (Kd.R_lower ho (below_size HB.out))
   clear HS HB ho hb
   obtain ⟨Ao, co, eo⟩ := Kd.R_slice HO.out
   rw [hrl] at eo
   subst eo
   have hbl := bss_len i k (pickM k zs)
   go_wp2_with (first | ((with_reducible refine gate_builtin (b := .append) (xs := #[.tmp 26, .tmp 33]) rfl ?_); at_builtin; refine Kd.S_append KBB (w0 := w) w.heap.size rfl (.tmp 26) (.tmp 33) 36 35 (.slice none 0 0) 24 rfl Try.underlying36 PRsEncode.info35 rfl (by decide) (by omega) u7 (bss (rowsOf i k (pickM k zs))) r [.slice Ao k co] (fun _ => True) (fun k_ => some k_ = (.slice Ao k co : Value).ownBlock) rfl rfl ?aP (fun k_ hk_ => ((Kd.R_mono (ok' := fun k_ => True ∧ some k_ ≠ (u7 : Value).ownBlock) (Kd.R_apart' HO.out (Kd.S_typed HS2.out) (by decide)) (fun k_ hk => ⟨trivial, hk.2⟩))).1 k_ hk_.symm) ?aF ?aO ?aB ?aS ?aL ?_; (case aP => exact Kd.M_row (Kd.R_mono (Kd.R_tight rfl HO.out) (fun _ h_ => h_))); (case aF => exact fun _ _ => trivial); (case aO => exact Kd.S_mono HS2.out (fun k_ hk => ⟨trivial, fun e_ => hk.2 e_⟩)); (case aB => exact HB2.out); (case aS => exact below_size HB2.out); (case aL => rw [hbl]; omega); intro v165 w15 ho hb hg hat; have HSN := Lib.hid ho; have HBN := Lib.hid hb; clear ho hb hg hat))
   exact ⟨⟨i + 1, by omega, by go_num, by rw [bss_snoc, ← HR.out]; exact HSN.out, HBN.out⟩, by simp [intOf]; omega⟩
  ·obtain rfl : k = i := by omega
   have hMr := HM.out.below hbel
   have hlt : (m.take k).length = k := by rw [List.length_take, HLZ.out.2]; omega
   have hcl := PRsEncode.scriniumref07_CopyAll.calls (k + 1) (some pd) c' (bss (m.take k)) _ wr (by rw [bss_length, hlt]; exact (hMr.take hlq').rd) (by rw [bss_length, hlt]; exact hkc) (PRsEncode.copy_eq (m.take k) (by rw [hlt]; omega) (fun r hr => by have := HLL.out r (List.mem_of_mem_take hr); omega) (k + 1) (by rw [hlt]; omega))
   rw [bss_length, hlt] at hcl
   have HS := Lib.hid hS
   have HB := Lib.hid hbel
   have HLT := Lib.hid hlt
   clear hS hbel hMr hlt hi hik
   go_wp2_with fail
   refine hcl.mono ?_
   clear hcl
   rintro e w2 ⟨v9, rfl, hsl, hb2⟩
   obtain ⟨L, hLd⟩ : ∃ L, L = (m.headD []).length := ⟨_, rfl⟩
   obtain ⟨gm_, cm, Am, cpm, bkm, e7, hcm, hLm⟩ := Ls.of_S (c := k) HS.out (by rw [rowsOf_length]; omega) (fun r hr => by
    unfold rowsOf at hr
    obtain ⟨t, _, rfl⟩ := List.mem_map.1 hr
    simp)
   rw [rowsOf_length] at e7 hcm hLm
   subst e7
   obtain ⟨gl, cl, Al, cpl, bkl, e9, hcl9, hLl⟩ := Ls.of_S (c := L) hsl (by rw [HLT.out]; omega) (fun r hr => by rw [hLd]; exact HAL.out r (List.mem_of_mem_take hr))
   rw [HLT.out] at e9 hcl9 hLl
   subst e9
   have hsv : ∃ lo mid hi_, Sv w w2 lo mid hi_ gm_ gl k L (pickM k zs) (fn m) :=
    ⟨w.heap.size, wr.heap.size, w2.heap.size, ⟨_, _, _, (hLm.below (Nat.le_refl _) hb2).congr (fun i hi j hj => (fn_rowsOf _ hi hj).symm)⟩, ⟨_, _, _, hLl.congr (fun i hi j hj => by unfold fn; rw [gr_take hi (by rw [HLZ.out.2]; exact hlq')])⟩, Nat.le_refl _, ⟨HB.out.size, hb2.size⟩, Nat.le_refl _, bthen HB.out hb2⟩
   obtain ⟨lo, mid, hi_, hsv⟩ := hsv
   have HSV0 := Lib.hid hsv
   have HLD := Lib.hid hLd
   have hL2 : L ≤ 1000 := by rw [hLd]; exact HLL2.out
   clear hsv hLm hLl hsl hb2 HS HB hLd HLT
   go_wp2_with fail
   go_loopw [10] (fun x wr => ∃ (col : Nat) (M S : Lin.M), col ≤ k ∧ x = .int .i64 (col : Int) ∧ Rel k (pickM k zs) (fn m) M S ∧ Cols k col id M ∧ Sv w wr lo mid hi_ gm_ gl k L M S) (fun x _ => k - (intOf x).toNat)
   case atStart => exact ⟨0, _, _, by omega, rfl, Rel.start _ _ _, fun t ht => absurd ht (by omega), HSV0.out⟩
   case round =>
    obtain ⟨col, M, S, hc, rfl, hrl, hcols, hsv⟩ := hrel
    clear HSV0
    by_cases hck : col < k
    ·obtain ⟨at_, p1, p2, p3, p4⟩ := pivot hk1 hkn hn HOK.out (by have := HLZ.out; omega) hrl hck hcols
     have HRL : Hid (Rel k (pickM k zs) (fn m) M S ∧ Cols k col id M) := Lib.hid ⟨hrl, hcols⟩
     have HPZ := Lib.hid p4
     have HPN := Lib.hid p3
     have HSV := Lib.hid hsv
     have HK := Lib.hid hck
     have i3 : (0 : Int) ≤ (col : Int) := by omega
     have i4 : (col : Int) < (k : Int) := by omega
     clear hrl hcols p4 p3 hsv
     obtain ⟨wo, hwo⟩ : ∃ wo, wo = wr := ⟨_, rfl⟩
     subst hwo
     go_wp2_with fail
     go_loopw [11] (fun x wr => ∃ p : Nat, col ≤ p ∧ p ≤ at_ ∧ x = .int .i64 p ∧ wr = wo) (fun x _ => at_ - (intOf x).toNat)
     case atStart => exact ⟨col, Nat.le_refl _, p1, rfl, rfl⟩
     case round =>
      obtain ⟨p, q1, q2, rfl, hwr⟩ := hrel
      subst hwr
      obtain ⟨wo, hwo⟩ : ∃ wo, wo = wr := ⟨_, rfl⟩
      subst hwo
      obtain ⟨A, cp, bk, hm⟩ := HSV.out.m
      have hpk : p < k := by omega
      have a1 := hm.head p hpk
      have a0 := (hm.row p hpk).at_ (by omega)
      rw [a0] at a1
      have a2 := (hm.row p hpk).cell col hck
      have i1 : (0 : Int) ≤ (p : Int) := by omega
      have i2 : (p : Int) < (k : Int) := by omega
      by_cases hx : M p col = 0
      ·have tb := b_zero hx
       have HX := Lib.hid hx
       clear hx hm a0
       go_wp2_with fail
       exact ⟨⟨p + 1, by omega, by
        have : p ≠ at_ := fun e => HPN.out (by rw [← e]; exact HX.out)
        omega, by go_num, trivial⟩, by
        have : p ≠ at_ := fun e => HPN.out (by rw [← e]; exact HX.out)
        simp [intOf]; omega⟩
      ·have tb := b_ne_zero hx
       have hpa : p = at_ := by
        rcases Nat.lt_or_ge p at_ with h | h
        ·exact absurd (HPZ.out p q1 h) hx
        ·omega
       have HPV : Hid (col ≤ p ∧ p ≤ k ∧ p < k ∧ M p col ≠ 0 ∧ col < k) := Lib.hid ⟨q1, by omega, hpk, hx, hck⟩
       have b1 := hm.head col hck
       have b0 := (hm.row col hck).at_ (by omega)
       rw [b0] at b1
       have hf1 := hm.fg p
       have hf2 : (wo.setCell ⟨gm_, p, none⟩ (.slice (some ⟨bk col, 0, none⟩) k (cp col))).frozen? ⟨gm_, col, none⟩ = false := by simpa using hm.fg col
       have hmid := (hm.swap hpk hck).2
       rw [b0] at hmid
       have hs1 := HSV.out.swapM hm hpk hck
       rw [a0, b0] at hs1
       obtain ⟨wp, hwp⟩ : ∃ wp, wp = ((wo.setCell ⟨gm_, p, none⟩ (.slice (some ⟨bk col, 0, none⟩) k (cp col))).setCell ⟨gm_, col, none⟩ (.slice (some ⟨bk p, 0, none⟩) k (cp p))) := ⟨_, rfl⟩
       rw [← hwp] at hs1
       obtain ⟨A', cp', bk', hl⟩ := hs1.l
       have l1 := hl.head p hpk
       have l2 := hl.head col hck
       have hf3 := hl.fg p
       have hf4 : (wp.setCell ⟨gl, p, none⟩ (.slice (A' col) L (cp' col))).frozen? ⟨gl, col, none⟩ = false := by simpa using hl.fg col
       have hmid2 := (hl.swap hpk hck).2
       have hs2 := hs1.swapS hl hpk hck
       obtain ⟨M1, hM1⟩ : ∃ M1, M1 = swapRow p col M := ⟨_, rfl⟩
       obtain ⟨S1, hS1⟩ : ∃ S1, S1 = swapRow p col S := ⟨_, rfl⟩
       rw [← hM1, ← hS1] at hs2
       obtain ⟨A2, cp2, bk2, hm2⟩ := hs2.m
       have m1 := hm2.head col hck
       rw [(hm2.row col hck).at_ (by omega)] at m1
       have m2 := (hm2.row col hck).cell col hck
       obtain ⟨x, hx'⟩ : ∃ x, x = M p col := ⟨_, rfl⟩
       rw [show M1 col col = x by
        rw [hM1, hx']; unfold swapRow
        by_cases e : col = p
        ·rw [if_pos e, ← e]
        ·rw [if_neg e, if_pos rfl]] at m2
       have hcl := ref_inv x ((wp.setCell ⟨gl, p, none⟩ (.slice (A' col) L (cp' col))).setCell ⟨gl, col, none⟩ (.slice (A' p) L (cp' p)))
       have HS2 := Lib.hid hs2
       obtain ⟨ci, hci⟩ : ∃ ci, ci = gi x := ⟨_, rfl⟩
       rw [← hci] at hcl
       have HM1 : Hid (M1 = swapRow p col M ∧ S1 = swapRow p col S ∧ ci = gi (M p col)) := Lib.hid ⟨hM1, hS1, by rw [hci, hx']⟩
       rw [hwp] at l1 l2 hf3 hf4 hmid2 m1 m2 hcl
       replace HS2 := HS2.out
       rw [hwp] at HS2
       have HSQ := Lib.hid HS2
       clear HS2 hs1 hs2 hl hm hm2 hwp hM1 hS1 hx' hci hx a0 b0 hpa HPZ HPN HSV
       go_wp2_with fail
       refine hcl.mono ?_
       clear hcl a1 a2 b1 hf1 hf2 hmid l1 l2 hf3 hf4 hmid2 m1 m2 tb
       rintro e w6 ⟨rfl, hdr⟩
       have hsw := HSQ.out.below hdr.below
       have HSW := Lib.hid hsw
       clear hsw hdr HSQ i1 i2
       go_wp2_with fail
       go_loopw [15] (fun z wr => ∃ j : Nat, j ≤ k ∧ z = .int .i64 j ∧ Sv w wr lo mid hi_ gm_ gl k L (scaleTo col ci j M1) S1) (fun z _ => k - (intOf z).toNat)
       case atStart => exact ⟨0, by omega, rfl, by rw [scaleTo_zero]; exact HSW.out⟩
       case round =>
        obtain ⟨j, hj, rfl, hsj⟩ := hrel
        clear HSW
        have HK : Hid (col < k) := Lib.hid (by first | assumption | exact HPV.out.2.2.2.2)
        obtain ⟨A_, cp_, bk_, hm⟩ := hsj.m
        have h1 := hm.head col HK.out
        by_cases hjl : j < k
        ·have hrw := hm.row col HK.out
         rw [hrw.at_ (by omega)] at h1
         have h2 := hrw.cell j hjl
         rw [scaleTo_at] at h2
         obtain ⟨y, hy⟩ : ∃ y, y = M1 col j := ⟨_, rfl⟩
         rw [← hy] at h2
         obtain ⟨b, hb⟩ : ∃ b, b = bk_ col := ⟨_, rfl⟩
         obtain ⟨cv, hcv⟩ : ∃ cv, cv = cp_ col := ⟨_, rfl⟩
         rw [← hb] at h2
         rw [← hb, ← hcv] at h1
         have bd : Below wr.heap.size wr wr.drew := ⟨rfl, rfl, rfl, Nat.le_refl _, fun _ _ => rfl⟩
         have hfin : ∀ w6, Drawn0 wr.drew w6 → Sv w (w6.setCell ⟨b, j, none⟩ (.int .u8 ((gm ci y).toNat : Int))) lo mid hi_ gm_ gl k L (scaleTo col ci (j + 1) M1) S1 := fun w6 hd6 => by
          have hb6 := bd.trans hd6.below
          have h := (hsj.below hb6).setM (hm.below (by have := hsj.lm; have := hsj.hh; omega) hb6) HK.out hjl (gm ci y)
          rw [← hb] at h
          exact h.congr (fun x' _ b' _ => by rw [hy]; exact scaleTo_step ci M1 x' b') (fun _ _ _ _ => rfl)
         have hstay0 : ∀ w6, Drawn0 wr.drew w6 → w6.cell? ⟨gm_, col, none⟩ = some (.slice (some ⟨b, 0, none⟩) k cv) ∧ w6.cell? ⟨b, j, none⟩ = some (.int .u8 (y.toNat : Int)) ∧ w6.frozen? ⟨b, j, none⟩ = false := fun w6 hd6 => by
          have hb6 := bd.trans hd6.below
          refine ⟨pw_cell_below hb6 h1, pw_cell_below hb6 h2, ?_⟩
          rw [hb]
          exact ((hm.below (by have := hsj.lm; have := hsj.hh; omega) hb6).row col HK.out).frz (by omega) j
         have hstay := Lib.hid hstay0
         have HFIN := Lib.hid hfin
         have i1 : (0 : Int) ≤ (j : Int) := by omega
         have i2 : (j : Int) < (k : Int) := by omega
         have i3 : (0 : Int) ≤ (col : Int) := by omega
         have i4 : (col : Int) < (k : Int) := by have := HK.out; omega
         clear hstay0 hfin hsj hm hrw hy hb hcv bd
         go_wp2
         refine start_ (n := 16) (S := fun w' => w'.cell? ⟨gm_, col, none⟩ = some (.slice (some ⟨b, 0, none⟩) k cv) ∧ w'.cell? ⟨b, j, none⟩ = some (.int .u8 (y.toNat : Int))) (ds := [15]) #[false, false, false, false, false, false, false, false, false, false, false, false, false, false, false, false] (by kernel_rfl) rfl rfl ⟨h1, h2⟩ (fun hHeld => ?_)
         refine pure_ (i := 0) (N := some 98) (v := ?_) (a' := ?_) #[true, false, false, false, false, false, false, false, false, false, false, false, false, false, false, false] rfl rfl (by kernel_rfl) (fun _ _ _ h => h) (Or.inl ⟨by rfl, ?_⟩) ?_ ?_
         rotate_left
         ·intro w'
          go_simp
          with_reducible rfl
         rotate_left
         ·simp only [Act.put, List.setIfInBounds_toArray, List.set_cons_zero, List.set_cons_succ, i64_w, i32_w]
          rfl
         refine pure_ (i := 1) (N := some 99) (v := ?_) (a' := ?_) #[true, true, false, false, false, false, false, false, false, false, false, false, false, false, false, false] rfl rfl (by kernel_rfl) (fun _ _ _ h => h) (Or.inl ⟨by rfl, ?_⟩) ?_ ?_
         rotate_left
         ·intro w'
          go_simp
          with_reducible rfl
         rotate_left
         ·simp only [Act.put, List.setIfInBounds_toArray, List.set_cons_zero, List.set_cons_succ, i64_w, i32_w]
          rfl
         refine pure_ (i := 2) (N := some 100) (v := ?_) (a' := ?_) #[true, true, true, false, false, false, false, false, false, false, false, false, false, false, false, false] rfl rfl (by kernel_rfl) (fun _ _ _ h => h) (Or.inl ⟨by rfl, ?_⟩) ?_ ?_
         rotate_left
         ·intro w'
          go_simp
          with_reducible rfl
         rotate_left
         ·simp only [Act.put, List.setIfInBounds_toArray, List.set_cons_zero, List.set_cons_succ, i64_w, i32_w]
          rfl
         refine pure_ (i := 4) (N := some 102) (v := ?_) (a' := ?_) #[true, true, true, false, true, false, false, false, false, false, false, false, false, false, false, false] rfl rfl (by kernel_rfl) (fun _ _ _ h => h) (Or.inl ⟨by rfl, ?_⟩) ?_ ?_
         rotate_left
         ·intro w'
          go_simp
          with_reducible rfl
         rotate_left
         ·simp only [Act.put, List.setIfInBounds_toArray, List.set_cons_zero, List.set_cons_succ, i64_w, i32_w]
          rfl
         refine pure_ (i := 5) (N := some 103) (v := ?_) (a' := ?_) #[true, true, true, false, true, true, false, false, false, false, false, false, false, false, false, false] rfl rfl (by kernel_rfl) (fun _ _ _ h => h) (Or.inl ⟨by rfl, ?_⟩) ?_ ?_
         rotate_left
         ·intro w'
          go_simp
          with_reducible rfl
         rotate_left
         ·simp only [Act.put, List.setIfInBounds_toArray, List.set_cons_zero, List.set_cons_succ, i64_w, i32_w]
          rfl
         refine pure_ (i := 6) (N := some 104) (v := ?_) (a' := ?_) #[true, true, true, false, true, true, true, false, false, false, false, false, false, false, false, false] rfl rfl (by kernel_rfl) (fun _ _ _ h => h) (Or.inl ⟨by rfl, ?_⟩) ?_ ?_
         rotate_left
         ·intro w'
          go_simp
          with_reducible rfl
         rotate_left
         ·simp only [Act.put, List.setIfInBounds_toArray, List.set_cons_zero, List.set_cons_succ, i64_w, i32_w]
          rfl
         refine pure_ (i := 7) (N := some 105) (v := ?_) (a' := ?_) #[true, true, true, false, true, true, true, true, false, false, false, false, false, false, false, false] rfl rfl (by kernel_rfl) (fun _ _ _ h => h) (Or.inl ⟨by rfl, ?_⟩) ?_ ?_
         rotate_left
         ·intro w'
          go_simp
          with_reducible rfl
         rotate_left
         ·simp only [Act.put, List.setIfInBounds_toArray, List.set_cons_zero, List.set_cons_succ, i64_w, i32_w]
          rfl
         refine pure_ (i := 8) (N := some 106) (v := ?_) (a' := ?_) #[true, true, true, false, true, true, true, true, true, false, false, false, false, false, false, false] rfl rfl (by kernel_rfl) (fun _ _ _ h => h) (Or.inl ⟨by rfl, ?_⟩) ?_ ?_
         rotate_left
         ·intro w'
          go_simp
          with_reducible rfl
         rotate_left
         ·simp only [Act.put, List.setIfInBounds_toArray, List.set_cons_zero, List.set_cons_succ, i64_w, i32_w]
          rfl
         refine pure_ (i := 10) (N := some 108) (v := ?_) (a' := ?_) #[true, true, true, false, true, true, true, true, true, false, true, false, false, false, false, false] rfl rfl (by kernel_rfl) (fun _ _ _ h => h) (Or.inl ⟨by rfl, ?_⟩) ?_ ?_
         rotate_left
         ·intro w'
          go_simp
          with_reducible rfl
         rotate_left
         ·simp only [Act.put, List.setIfInBounds_toArray, List.set_cons_zero, List.set_cons_succ, i64_w, i32_w]
          rfl
         refine take_ (i := 3) (N := some 101) (v := ?_) (a' := ?_) #[true, true, true, true, true, true, true, true, true, false, true, false, false, false, false, false] rfl rfl (by kernel_rfl) (fun _ _ _ h => h) (Or.inl ⟨by rfl, ?_⟩) hHeld ?_ ?_
         rotate_left
         ·rintro w' ⟨s0, s1⟩
          go_simp
          with_reducible rfl
         rotate_left
         ·simp only [Act.put, List.setIfInBounds_toArray, List.set_cons_zero, List.set_cons_succ, i64_w, i32_w]
          rfl
         refine take_ (i := 9) (N := some 107) (v := ?_) (a' := ?_) #[true, true, true, true, true, true, true, true, true, true, true, false, false, false, false, false] rfl rfl (by kernel_rfl) (fun _ _ _ h => h) (Or.inl ⟨by rfl, ?_⟩) hHeld ?_ ?_
         rotate_left
         ·rintro w' ⟨s0, s1⟩
          go_simp
          with_reducible rfl
         rotate_left
         ·simp only [Act.put, List.setIfInBounds_toArray, List.set_cons_zero, List.set_cons_succ, i64_w, i32_w]
          rfl
         refine pure_ (i := 11) (N := some 109) (v := ?_) (a' := ?_) #[true, true, true, true, true, true, true, true, true, true, true, true, false, false, false, false] rfl rfl (by kernel_rfl) (fun _ _ _ h => h) (Or.inl ⟨by rfl, ?_⟩) ?_ ?_
         rotate_left
         ·intro w'
          go_simp
          with_reducible rfl
         rotate_left
         ·simp only [Act.put, List.setIfInBounds_toArray, List.set_cons_zero, List.set_cons_succ, i64_w, i32_w]
          rfl
         refine take_ (i := 12) (N := some 110) (v := ?_) (a' := ?_) #[true, true, true, true, true, true, true, true, true, true, true, true, true, false, false, false] rfl rfl (by kernel_rfl) (fun _ _ _ h => h) (Or.inl ⟨by rfl, ?_⟩) hHeld ?_ ?_
         rotate_left
         ·rintro w' ⟨s0, s1⟩
          go_simp
          with_reducible rfl
         rotate_left
         ·simp only [Act.put, List.setIfInBounds_toArray, List.set_cons_zero, List.set_cons_succ, i64_w, i32_w]
          rfl
         refine one_ (i := 13) (N := some 111) #[true, true, true, true, true, true, true, true, true, true, true, true, true, true, false, false] rfl rfl (by kernel_rfl) (by decide) (fun K hK => ?_)
         refine goes_ Try.func29 (by kernel_rfl) rfl #[.int .u8 (ci.toNat : Int), .int .u8 (y.toNat : Int)] (by rfl) rfl rfl (by simp only [List.map_toArray, List.map_cons, List.map_nil]; rfl) ?_
         with_reducible refine ((ref_mul ci y _)).mono ?_
         rintro e w6 ⟨rfl, hdr⟩
         refine ⟨_, rfl, ?_⟩
         obtain ⟨f1, f2, f3⟩ := hstay.out w6 hdr
         have HF7 := Lib.hid (HFIN.out w6 hdr)
         refine hK.out _ _ ⟨f1, f2⟩ (fun hHeld => ?_)
         clear hK K
         refine norm_ (a' := ?_) ?_ ?_
         rotate_left
         ·show Act.put _ (some 111) _ = _
          simp only [Act.put, List.setIfInBounds_toArray, List.set_cons_zero, List.set_cons_succ, i64_w, i32_w]
          rfl
         refine pure_ (i := 14) (N := some 112) (v := ?_) (a' := ?_) #[true, true, true, true, true, true, true, true, true, true, true, true, true, true, true, false] rfl rfl (by kernel_rfl) (fun _ _ _ h => h) (Or.inl ⟨by rfl, ?_⟩) ?_ ?_
         rotate_left
         ·intro w'
          go_simp
          with_reducible rfl
         rotate_left
         ·simp only [Act.put, List.setIfInBounds_toArray, List.set_cons_zero, List.set_cons_succ, i64_w, i32_w]
          rfl
         refine last_ (i := 15) (N := none) #[true, true, true, true, true, true, true, true, true, true, true, true, true, true, true, true] rfl rfl (by kernel_rfl) (by decide) (fun K hK => ?_)
         refine skip_ (w1 := ?_) (by rfl) rfl ?_ ?_
         rotate_left
         ·go_simp
          rfl
         refine hK.out _ _ ?_
         clear hK K
         refine done_ (by kernel_rfl) ?_
         go_wp2
         exact ⟨⟨j + 1, by omega, by go_num, HF7.out⟩, by simp [intOf]; omega⟩
        ·obtain rfl : k = j := by omega
         have hdone : Sv w wr lo mid hi_ gm_ gl k L (scaleRow col ci M1) S1 := hsj.congr (fun x' _ b' hb' => scaleTo_done ci M1 x' b' hb') (fun _ _ _ _ => rfl)
         have i3 : (0 : Int) ≤ (col : Int) := by omega
         have i4 : (col : Int) < (k : Int) := by have := HK.out; omega
         have HSW := Lib.hid hdone
         clear hsj hm hdone h1
         obtain ⟨wo, hwo⟩ : ∃ wo, wo = wr := ⟨_, rfl⟩
         subst hwo
         go_wp2_with fail
         go_loopw [16] (fun z wr => ∃ j : Nat, j ≤ L ∧ z = .int .i64 j ∧ Sv w wr lo mid hi_ gm_ gl k L (scaleRow col ci M1) (scaleTo col ci j S1)) (fun z _ => L - (intOf z).toNat)
         case atStart => exact ⟨0, by omega, rfl, by rw [scaleTo_zero]; exact HSW.out⟩
         case round =>
          obtain ⟨j, hj, rfl, hsj⟩ := hrel
          clear HSW
          have HK : Hid (col < k) := Lib.hid (by first | assumption | exact HPV.out.2.2.2.2)
          obtain ⟨A_, cp_, bk_, hm⟩ := hsj.l
          have h1 := hm.head col HK.out
          by_cases hjl : j < L
          ·have hrw := hm.row col HK.out
           rw [hrw.at_ (by omega)] at h1
           have h2 := hrw.cell j hjl
           rw [scaleTo_at] at h2
           obtain ⟨y, hy⟩ : ∃ y, y = S1 col j := ⟨_, rfl⟩
           rw [← hy] at h2
           obtain ⟨b, hb⟩ : ∃ b, b = bk_ col := ⟨_, rfl⟩
           obtain ⟨cv, hcv⟩ : ∃ cv, cv = cp_ col := ⟨_, rfl⟩
           rw [← hb] at h2
           rw [← hb, ← hcv] at h1
           have bd : Below wr.heap.size wr wr.drew := ⟨rfl, rfl, rfl, Nat.le_refl _, fun _ _ => rfl⟩
           have hfin : ∀ w6, Drawn0 wr.drew w6 → Sv w (w6.setCell ⟨b, j, none⟩ (.int .u8 ((gm ci y).toNat : Int))) lo mid hi_ gm_ gl k L (scaleRow col ci M1) (scaleTo col ci (j + 1) S1) := fun w6 hd6 => by
            have hb6 := bd.trans hd6.below
            have h := (hsj.below hb6).setS (hm.below (by have := hsj.lm; have := hsj.hh; omega) hb6) HK.out hjl (gm ci y)
            rw [← hb] at h
            exact h.congr (fun _ _ _ _ => rfl) (fun x' _ b' _ => by rw [hy]; exact scaleTo_step ci S1 x' b')
           have hstay0 : ∀ w6, Drawn0 wr.drew w6 → w6.cell? ⟨gl, col, none⟩ = some (.slice (some ⟨b, 0, none⟩) L cv) ∧ w6.cell? ⟨b, j, none⟩ = some (.int .u8 (y.toNat : Int)) ∧ w6.frozen? ⟨b, j, none⟩ = false := fun w6 hd6 => by
            have hb6 := bd.trans hd6.below
            refine ⟨pw_cell_below hb6 h1, pw_cell_below hb6 h2, ?_⟩
            rw [hb]
            exact ((hm.below (by have := hsj.lm; have := hsj.hh; omega) hb6).row col HK.out).frz (by omega) j
           have hstay := Lib.hid hstay0
           have HFIN := Lib.hid hfin
           have i1 : (0 : Int) ≤ (j : Int) := by omega
           have i2 : (j : Int) < (L : Int) := by omega
           have i3 : (0 : Int) ≤ (col : Int) := by omega
           have i4 : (col : Int) < (k : Int) := by have := HK.out; omega
           clear hstay0 hfin hsj hm hrw hy hb hcv bd
           go_wp2
           refine start_ (n := 16) (S := fun w' => w'.cell? ⟨gl, col, none⟩ = some (.slice (some ⟨b, 0, none⟩) L cv) ∧ w'.cell? ⟨b, j, none⟩ = some (.int .u8 (y.toNat : Int))) (ds := [15]) #[false, false, false, false, false, false, false, false, false, false, false, false, false, false, false, false] (by kernel_rfl) rfl rfl ⟨h1, h2⟩ (fun hHeld => ?_)
           refine pure_ (i := 0) (N := some 122) (v := ?_) (a' := ?_) #[true, false, false, false, false, false, false, false, false, false, false, false, false, false, false, false] rfl rfl (by kernel_rfl) (fun _ _ _ h => h) (Or.inl ⟨by rfl, ?_⟩) ?_ ?_
           rotate_left
           ·intro w'
            go_simp
            with_reducible rfl
           rotate_left
           ·simp only [Act.put, List.setIfInBounds_toArray, List.set_cons_zero, List.set_cons_succ, i64_w, i32_w]
            rfl
           refine pure_ (i := 1) (N := some 123) (v := ?_) (a' := ?_) #[true, true, false, false, false, false, false, false, false, false, false, false, false, false, false, false] rfl rfl (by kernel_rfl) (fun _ _ _ h => h) (Or.inl ⟨by rfl, ?_⟩) ?_ ?_
           rotate_left
           ·intro w'
            go_simp
            with_reducible rfl
           rotate_left
           ·simp only [Act.put, List.setIfInBounds_toArray, List.set_cons_zero, List.set_cons_succ, i64_w, i32_w]
            rfl
           refine pure_ (i := 2) (N := some 124) (v := ?_) (a' := ?_) #[true, true, true, false, false, false, false, false, false, false, false, false, false, false, false, false] rfl rfl (by kernel_rfl) (fun _ _ _ h => h) (Or.inl ⟨by rfl, ?_⟩) ?_ ?_
           rotate_left
           ·intro w'
            go_simp
            with_reducible rfl
           rotate_left
           ·simp only [Act.put, List.setIfInBounds_toArray, List.set_cons_zero, List.set_cons_succ, i64_w, i32_w]
            rfl
           refine pure_ (i := 4) (N := some 126) (v := ?_) (a' := ?_) #[true, true, true, false, true, false, false, false, false, false, false, false, false, false, false, false] rfl rfl (by kernel_rfl) (fun _ _ _ h => h) (Or.inl ⟨by rfl, ?_⟩) ?_ ?_
           rotate_left
           ·intro w'
            go_simp
            with_reducible rfl
           rotate_left
           ·simp only [Act.put, List.setIfInBounds_toArray, List.set_cons_zero, List.set_cons_succ, i64_w, i32_w]
            rfl
           refine pure_ (i := 5) (N := some 127) (v := ?_) (a' := ?_) #[true, true, true, false, true, true, false, false, false, false, false, false, false, false, false, false] rfl rfl (by kernel_rfl) (fun _ _ _ h => h) (Or.inl ⟨by rfl, ?_⟩) ?_ ?_
           rotate_left
           ·intro w'
            go_simp
            with_reducible rfl
           rotate_left
           ·simp only [Act.put, List.setIfInBounds_toArray, List.set_cons_zero, List.set_cons_succ, i64_w, i32_w]
            rfl
           refine pure_ (i := 6) (N := some 128) (v := ?_) (a' := ?_) #[true, true, true, false, true, true, true, false, false, false, false, false, false, false, false, false] rfl rfl (by kernel_rfl) (fun _ _ _ h => h) (Or.inl ⟨by rfl, ?_⟩) ?_ ?_
           rotate_left
           ·intro w'
            go_simp
            with_reducible rfl
           rotate_left
           ·simp only [Act.put, List.setIfInBounds_toArray, List.set_cons_zero, List.set_cons_succ, i64_w, i32_w]
            rfl
           refine pure_ (i := 7) (N := some 129) (v := ?_) (a' := ?_) #[true, true, true, false, true, true, true, true, false, false, false, false, false, false, false, false] rfl rfl (by kernel_rfl) (fun _ _ _ h => h) (Or.inl ⟨by rfl, ?_⟩) ?_ ?_
           rotate_left
           ·intro w'
            go_simp
            with_reducible rfl
           rotate_left
           ·simp only [Act.put, List.setIfInBounds_toArray, List.set_cons_zero, List.set_cons_succ, i64_w, i32_w]
            rfl
           refine pure_ (i := 8) (N := some 130) (v := ?_) (a' := ?_) #[true, true, true, false, true, true, true, true, true, false, false, false, false, false, false, false] rfl rfl (by kernel_rfl) (fun _ _ _ h => h) (Or.inl ⟨by rfl, ?_⟩) ?_ ?_
           rotate_left
           ·intro w'
            go_simp
            with_reducible rfl
           rotate_left
           ·simp only [Act.put, List.setIfInBounds_toArray, List.set_cons_zero, List.set_cons_succ, i64_w, i32_w]
            rfl
           refine pure_ (i := 10) (N := some 132) (v := ?_) (a' := ?_) #[true, true, true, false, true, true, true, true, true, false, true, false, false, false, false, false] rfl rfl (by kernel_rfl) (fun _ _ _ h => h) (Or.inl ⟨by rfl, ?_⟩) ?_ ?_
           rotate_left
           ·intro w'
            go_simp
            with_reducible rfl
           rotate_left
           ·simp only [Act.put, List.setIfInBounds_toArray, List.set_cons_zero, List.set_cons_succ, i64_w, i32_w]
            rfl
           refine take_ (i := 3) (N := some 125) (v := ?_) (a' := ?_) #[true, true, true, true, true, true, true, true, true, false, true, false, false, false, false, false] rfl rfl (by kernel_rfl) (fun _ _ _ h => h) (Or.inl ⟨by rfl, ?_⟩) hHeld ?_ ?_
           rotate_left
           ·rintro w' ⟨s0, s1⟩
            go_simp
            with_reducible rfl
           rotate_left
           ·simp only [Act.put, List.setIfInBounds_toArray, List.set_cons_zero, List.set_cons_succ, i64_w, i32_w]
            rfl
           refine take_ (i := 9) (N := some 131) (v := ?_) (a' := ?_) #[true, true, true, true, true, true, true, true, true, true, true, false, false, false, false, false] rfl rfl (by kernel_rfl) (fun _ _ _ h => h) (Or.inl ⟨by rfl, ?_⟩) hHeld ?_ ?_
           rotate_left
           ·rintro w' ⟨s0, s1⟩
            go_simp
            with_reducible rfl
           rotate_left
           ·simp only [Act.put, List.setIfInBounds_toArray, List.set_cons_zero, List.set_cons_succ, i64_w, i32_w]
            rfl
           refine pure_ (i := 11) (N := some 133) (v := ?_) (a' := ?_) #[true, true, true, true, true, true, true, true, true, true, true, true, false, false, false, false] rfl rfl (by kernel_rfl) (fun _ _ _ h => h) (Or.inl ⟨by rfl, ?_⟩) ?_ ?_
           rotate_left
           ·intro w'
            go_simp
            with_reducible rfl
           rotate_left
           ·simp only [Act.put, List.setIfInBounds_toArray, List.set_cons_zero, List.set_cons_succ, i64_w, i32_w]
            rfl
           refine take_ (i := 12) (N := some 134) (v := ?_) (a' := ?_) #[true, true, true, true, true, true, true, true, true, true, true, true, true, false, false, false] rfl rfl (by kernel_rfl) (fun _ _ _ h => h) (Or.inl ⟨by rfl, ?_⟩) hHeld ?_ ?_
           rotate_left
           ·rintro w' ⟨s0, s1⟩
            go_simp
            with_reducible rfl
           rotate_left
           ·simp only [Act.put, List.setIfInBounds_toArray, List.set_cons_zero, List.set_cons_succ, i64_w, i32_w]
            rfl
           refine one_ (i := 13) (N := some 135) #[true, true, true, true, true, true, true, true, true, true, true, true, true, true, false, false] rfl rfl (by kernel_rfl) (by decide) (fun K hK => ?_)
           refine goes_ Try.func29 (by kernel_rfl) rfl #[.int .u8 (ci.toNat : Int), .int .u8 (y.toNat : Int)] (by rfl) rfl rfl (by simp only [List.map_toArray, List.map_cons, List.map_nil]; rfl) ?_
           with_reducible refine ((ref_mul ci y _)).mono ?_
           rintro e w6 ⟨rfl, hdr⟩
           refine ⟨_, rfl, ?_⟩
           obtain ⟨f1, f2, f3⟩ := hstay.out w6 hdr
           have HF7 := Lib.hid (HFIN.out w6 hdr)
           refine hK.out _ _ ⟨f1, f2⟩ (fun hHeld => ?_)
           clear hK K
           refine norm_ (a' := ?_) ?_ ?_
           rotate_left
           ·show Act.put _ (some 135) _ = _
            simp only [Act.put, List.setIfInBounds_toArray, List.set_cons_zero, List.set_cons_succ, i64_w, i32_w]
            rfl
           refine pure_ (i := 14) (N := some 136) (v := ?_) (a' := ?_) #[true, true, true, true, true, true, true, true, true, true, true, true, true, true, true, false] rfl rfl (by kernel_rfl) (fun _ _ _ h => h) (Or.inl ⟨by rfl, ?_⟩) ?_ ?_
           rotate_left
           ·intro w'
            go_simp
            with_reducible rfl
           rotate_left
           ·simp only [Act.put, List.setIfInBounds_toArray, List.set_cons_zero, List.set_cons_succ, i64_w, i32_w]
            rfl
           refine last_ (i := 15) (N := none) #[true, true, true, true, true, true, true, true, true, true, true, true, true, true, true, true] rfl rfl (by kernel_rfl) (by decide) (fun K hK => ?_)
           refine skip_ (w1 := ?_) (by rfl) rfl ?_ ?_
           rotate_left
           ·go_simp
            rfl
           refine hK.out _ _ ?_
           clear hK K
           refine done_ (by kernel_rfl) ?_
           go_wp2
           exact ⟨⟨j + 1, by omega, by go_num, HF7.out⟩, by simp [intOf]; omega⟩
          ·obtain rfl : L = j := by omega
           have hdone : Sv w wr lo mid hi_ gm_ gl k L (scaleRow col ci M1) (scaleRow col ci S1) := hsj.congr (fun _ _ _ _ => rfl) (fun x' _ b' hb' => scaleTo_done ci S1 x' b' hb')
           have i3 : (0 : Int) ≤ (col : Int) := by omega
           have i4 : (col : Int) < (k : Int) := by have := HK.out; omega
           have HSW := Lib.hid hdone
           clear hsj hm hdone
           obtain ⟨wo, hwo⟩ : ∃ wo, wo = wr := ⟨_, rfl⟩
           subst hwo
           obtain ⟨M2, hM2⟩ : ∃ M2, M2 = Lin.pre col p col M M := ⟨_, rfl⟩
           obtain ⟨S2, hS2⟩ : ∃ S2, S2 = Lin.pre col p col M S := ⟨_, rfl⟩
           have HM2 : Hid (M2 = Lin.pre col p col M M ∧ S2 = Lin.pre col p col M S) := Lib.hid ⟨hM2, hS2⟩
           have hsw := HSW.out
           rw [show scaleRow col ci M1 = M2 by rw [hM2, HM1.out.1, HM1.out.2.2, swapRow_comm]; rfl, show scaleRow col ci S1 = S2 by rw [hS2, HM1.out.2.1, HM1.out.2.2, swapRow_comm]; rfl] at hsw
           replace HSW := Lib.hid hsw
           clear hsw hM2 hS2
           go_wp2_with fail
           go_loopw [17] (fun z wr => ∃ i : Nat, i ≤ k ∧ z = .int .i64 i ∧ Sv w wr lo mid hi_ gm_ gl k L (Lin.part col i (fun a => M2 a col) M2) (Lin.part col i (fun a => M2 a col) S2)) (fun z _ => k - (intOf z).toNat)
           case atStart => exact ⟨0, by omega, rfl, by rw [part_zero, part_zero]; exact HSW.out⟩
           case round =>
            obtain ⟨i, hi, rfl, hsi⟩ := hrel
            clear HSW
            by_cases hik : i < k
            ·obtain ⟨A_, cp_, bk_, hm⟩ := hsi.m
             have h1 := hm.head i hik
             have hrw := hm.row i hik
             rw [hrw.at_ (by omega)] at h1
             have h2 := hrw.cell col HK.out
             rw [part_from _ _ _ _ (Nat.le_refl _)] at h2
             obtain ⟨d, hd⟩ : ∃ d, d = M2 i col := ⟨_, rfl⟩
             rw [← hd] at h2
             have i1 : (0 : Int) ≤ (i : Int) := by omega
             have i2 : (i : Int) < (k : Int) := by omega
             have i3 : (0 : Int) ≤ (col : Int) := by omega
             have i4 : (col : Int) < (k : Int) := by have := HK.out; omega
             have HSI := Lib.hid hsi
             have HD := Lib.hid hd
             clear hsi hm hrw hd
             by_cases hic : i = col
             ·have tc : ((i : Int) == (col : Int)) = true := by rw [hic]; simp
              have HIC := Lib.hid hic
              clear hic
              go_wp2_with fail
              exact ⟨⟨i + 1, by omega, by go_num, by have h := HSI.out; rw [HIC.out] at h ⊢; rw [part_succ_row, part_succ_row]; exact h⟩, by simp [intOf]; omega⟩
             ·have tc : ((i : Int) == (col : Int)) = false := by simp; omega
              have HI : Hid (i < k ∧ i ≠ col) := Lib.hid ⟨hik, hic⟩
              by_cases hd0 : d = 0
              ·have td := b_zero hd0
               have HD0 := Lib.hid hd0
               clear hd0 hic
               go_wp2_with fail
               exact ⟨⟨i + 1, by omega, by go_num, by rw [part_succ HI.out.2, part_succ HI.out.2, ← HD.out, HD0.out, addRow_zero, addRow_zero]; exact HSI.out⟩, by simp [intOf]; omega⟩
              ·have td := b_ne_zero hd0
               obtain ⟨M3, hM3⟩ : ∃ M3, M3 = Lin.part col i (fun a => M2 a col) M2 := ⟨_, rfl⟩
               obtain ⟨S3, hS3⟩ : ∃ S3, S3 = Lin.part col i (fun a => M2 a col) S2 := ⟨_, rfl⟩
               have HM3 : Hid (M3 = Lin.part col i (fun a => M2 a col) M2 ∧ S3 = Lin.part col i (fun a => M2 a col) S2) := Lib.hid ⟨hM3, hS3⟩
               have hsx := HSI.out
               rw [← hM3, ← hS3] at hsx
               have HSX := Lib.hid hsx
               obtain ⟨wo, hwo⟩ : ∃ wo, wo = wr := ⟨_, rfl⟩
               subst hwo
               clear hsx hM3 hS3 HSI hic hd0
               go_wp2_with fail
               go_loopw [19] (fun z wr => ∃ j : Nat, j ≤ k ∧ z = .int .i64 j ∧ Sv w wr lo mid hi_ gm_ gl k L (addTo i col d j M3) S3) (fun z _ => k - (intOf z).toNat)
               case atStart => exact ⟨0, by omega, rfl, by rw [addTo_zero]; exact HSX.out⟩
               case round =>
                obtain ⟨j, hj, rfl, hsj⟩ := hrel
                clear HSX
                obtain ⟨A_, cp_, bk_, hm⟩ := hsj.m
                have h1 := hm.head i HI.out.1
                by_cases hjl : j < k
                ·have h2 := hm.head col HK.out
                 have hrw := hm.row i HI.out.1
                 have hrc := hm.row col HK.out
                 rw [hrw.at_ (by omega)] at h1
                 rw [hrc.at_ (by omega)] at h2
                 have h3 := hrw.cell j hjl
                 have h4 := hrc.cell j hjl
                 rw [addTo_at] at h3
                 rw [addTo_src d M3 HI.out.2] at h4
                 obtain ⟨x, hx⟩ : ∃ x, x = M3 i j := ⟨_, rfl⟩
                 obtain ⟨y, hy⟩ : ∃ y, y = M3 col j := ⟨_, rfl⟩
                 rw [← hx] at h3
                 rw [← hy] at h4
                 obtain ⟨bi, hbi⟩ : ∃ b, b = bk_ i := ⟨_, rfl⟩
                 obtain ⟨bc, hbc⟩ : ∃ b, b = bk_ col := ⟨_, rfl⟩
                 obtain ⟨ui, hui⟩ : ∃ cv, cv = cp_ i := ⟨_, rfl⟩
                 obtain ⟨uc, huc⟩ : ∃ cv, cv = cp_ col := ⟨_, rfl⟩
                 rw [← hbi, ← hui] at h1
                 rw [← hbc, ← huc] at h2
                 rw [← hbi] at h3
                 rw [← hbc] at h4
                 have bd : Below wr.heap.size wr wr.drew := ⟨rfl, rfl, rfl, Nat.le_refl _, fun _ _ => rfl⟩
                 have hxx0 := u8_xor_all x (gm d y)
                 obtain ⟨v, hv⟩ : ∃ v, v = x ^^^ gm d y := ⟨_, rfl⟩
                 have hxx : bits .xor .u8 (x.toNat : Int) ((gm d y).toNat : Int) = (v.toNat : Int) := by rw [hv]; exact hxx0
                 have hfin : ∀ w6, Drawn0 wr.drew w6 → Sv w (w6.setCell ⟨bi, j, none⟩ (.int .u8 (v.toNat : Int))) lo mid hi_ gm_ gl k L (addTo i col d (j + 1) M3) S3 := fun w6 hd6 => by
                  have hb6 := bd.trans hd6.below
                  have h := (hsj.below hb6).setM (hm.below (by have := hsj.lm; have := hsj.hh; omega) hb6) HI.out.1 hjl v
                  rw [← hbi] at h
                  exact h.congr (fun x' _ b' _ => by rw [hv, hx, hy]; exact (addTo_step d M3 x' b').symm) (fun _ _ _ _ => rfl)
                 have hstay0 : ∀ w6, Drawn0 wr.drew w6 → w6.cell? ⟨gm_, i, none⟩ = some (.slice (some ⟨bi, 0, none⟩) k ui) ∧ w6.cell? ⟨gm_, col, none⟩ = some (.slice (some ⟨bc, 0, none⟩) k uc) ∧ w6.cell? ⟨bi, j, none⟩ = some (.int .u8 (x.toNat : Int)) ∧ w6.cell? ⟨bc, j, none⟩ = some (.int .u8 (y.toNat : Int)) ∧ w6.frozen? ⟨bi, j, none⟩ = false := fun w6 hd6 => by
                  have hb6 := bd.trans hd6.below
                  refine ⟨pw_cell_below hb6 h1, pw_cell_below hb6 h2, pw_cell_below hb6 h3, pw_cell_below hb6 h4, ?_⟩
                  rw [hbi]
                  exact ((hm.below (by have := hsj.lm; have := hsj.hh; omega) hb6).row i HI.out.1).frz (by omega) j
                 have hstay := Lib.hid hstay0
                 have HFIN := Lib.hid hfin
                 have i1 : (0 : Int) ≤ (j : Int) := by omega
                 have i2 : (j : Int) < (k : Int) := by omega
                 have i3 : (0 : Int) ≤ (col : Int) := by omega
                 have i4 : (col : Int) < (k : Int) := by have := HK.out; omega
                 have i5 : (0 : Int) ≤ (i : Int) := by omega
                 have i6 : (i : Int) < (k : Int) := by have := HI.out.1; omega
                 clear hstay0 hfin hsj hm hrw hrc hx hy hv hxx0 hbi hbc hui huc bd
                 go_wp2
                 refine start_ (n := 24) (S := fun w' => w'.cell? ⟨gm_, i, none⟩ = some (.slice (some ⟨bi, 0, none⟩) k ui) ∧ w'.cell? ⟨gm_, col, none⟩ = some (.slice (some ⟨bc, 0, none⟩) k uc) ∧ w'.cell? ⟨bi, j, none⟩ = some (.int .u8 (x.toNat : Int)) ∧ w'.cell? ⟨bc, j, none⟩ = some (.int .u8 (y.toNat : Int))) (ds := [23]) #[false, false, false, false, false, false, false, false, false, false, false, false, false, false, false, false, false, false, false, false, false, false, false, false] (by kernel_rfl) rfl rfl ⟨h1, h2, h3, h4⟩ (fun hHeld => ?_)
                 refine pure_ (i := 0) (N := some 161) (v := ?_) (a' := ?_) #[true, false, false, false, false, false, false, false, false, false, false, false, false, false, false, false, false, false, false, false, false, false, false, false] rfl rfl (by kernel_rfl) (fun _ _ _ h => h) (Or.inl ⟨by rfl, ?_⟩) ?_ ?_
                 rotate_left
                 ·intro w'
                  go_simp
                  with_reducible rfl
                 rotate_left
                 ·simp only [Act.put, List.setIfInBounds_toArray, List.set_cons_zero, List.set_cons_succ, i64_w, i32_w]
                  rfl
                 refine pure_ (i := 1) (N := some 162) (v := ?_) (a' := ?_) #[true, true, false, false, false, false, false, false, false, false, false, false, false, false, false, false, false, false, false, false, false, false, false, false] rfl rfl (by kernel_rfl) (fun _ _ _ h => h) (Or.inl ⟨by rfl, ?_⟩) ?_ ?_
                 rotate_left
                 ·intro w'
                  go_simp
                  with_reducible rfl
                 rotate_left
                 ·simp only [Act.put, List.setIfInBounds_toArray, List.set_cons_zero, List.set_cons_succ, i64_w, i32_w]
                  rfl
                 refine pure_ (i := 2) (N := some 163) (v := ?_) (a' := ?_) #[true, true, true, false, false, false, false, false, false, false, false, false, false, false, false, false, false, false, false, false, false, false, false, false] rfl rfl (by kernel_rfl) (fun _ _ _ h => h) (Or.inl ⟨by rfl, ?_⟩) ?_ ?_
                 rotate_left
                 ·intro w'
                  go_simp
                  with_reducible rfl
                 rotate_left
                 ·simp only [Act.put, List.setIfInBounds_toArray, List.set_cons_zero, List.set_cons_succ, i64_w, i32_w]
                  rfl
                 refine pure_ (i := 4) (N := some 165) (v := ?_) (a' := ?_) #[true, true, true, false, true, false, false, false, false, false, false, false, false, false, false, false, false, false, false, false, false, false, false, false] rfl rfl (by kernel_rfl) (fun _ _ _ h => h) (Or.inl ⟨by rfl, ?_⟩) ?_ ?_
                 rotate_left
                 ·intro w'
                  go_simp
                  with_reducible rfl
                 rotate_left
                 ·simp only [Act.put, List.setIfInBounds_toArray, List.set_cons_zero, List.set_cons_succ, i64_w, i32_w]
                  rfl
                 refine pure_ (i := 5) (N := some 166) (v := ?_) (a' := ?_) #[true, true, true, false, true, true, false, false, false, false, false, false, false, false, false, false, false, false, false, false, false, false, false, false] rfl rfl (by kernel_rfl) (fun _ _ _ h => h) (Or.inl ⟨by rfl, ?_⟩) ?_ ?_
                 rotate_left
                 ·intro w'
                  go_simp
                  with_reducible rfl
                 rotate_left
                 ·simp only [Act.put, List.setIfInBounds_toArray, List.set_cons_zero, List.set_cons_succ, i64_w, i32_w]
                  rfl
                 refine pure_ (i := 6) (N := some 167) (v := ?_) (a' := ?_) #[true, true, true, false, true, true, true, false, false, false, false, false, false, false, false, false, false, false, false, false, false, false, false, false] rfl rfl (by kernel_rfl) (fun _ _ _ h => h) (Or.inl ⟨by rfl, ?_⟩) ?_ ?_
                 rotate_left
                 ·intro w'
                  go_simp
                  with_reducible rfl
                 rotate_left
                 ·simp only [Act.put, List.setIfInBounds_toArray, List.set_cons_zero, List.set_cons_succ, i64_w, i32_w]
                  rfl
                 refine pure_ (i := 7) (N := some 168) (v := ?_) (a' := ?_) #[true, true, true, false, true, true, true, true, false, false, false, false, false, false, false, false, false, false, false, false, false, false, false, false] rfl rfl (by kernel_rfl) (fun _ _ _ h => h) (Or.inl ⟨by rfl, ?_⟩) ?_ ?_
                 rotate_left
                 ·intro w'
                  go_simp
                  with_reducible rfl
                 rotate_left
                 ·simp only [Act.put, List.setIfInBounds_toArray, List.set_cons_zero, List.set_cons_succ, i64_w, i32_w]
                  rfl
                 refine pure_ (i := 9) (N := some 170) (v := ?_) (a' := ?_) #[true, true, true, false, true, true, true, true, false, true, false, false, false, false, false, false, false, false, false, false, false, false, false, false] rfl rfl (by kernel_rfl) (fun _ _ _ h => h) (Or.inl ⟨by rfl, ?_⟩) ?_ ?_
                 rotate_left
                 ·intro w'
                  go_simp
                  with_reducible rfl
                 rotate_left
                 ·simp only [Act.put, List.setIfInBounds_toArray, List.set_cons_zero, List.set_cons_succ, i64_w, i32_w]
                  rfl
                 refine pure_ (i := 12) (N := some 173) (v := ?_) (a' := ?_) #[true, true, true, false, true, true, true, true, false, true, false, false, true, false, false, false, false, false, false, false, false, false, false, false] rfl rfl (by kernel_rfl) (fun _ _ _ h => h) (Or.inl ⟨by rfl, ?_⟩) ?_ ?_
                 rotate_left
                 ·intro w'
                  go_simp
                  with_reducible rfl
                 rotate_left
                 ·simp only [Act.put, List.setIfInBounds_toArray, List.set_cons_zero, List.set_cons_succ, i64_w, i32_w]
                  rfl
                 refine pure_ (i := 13) (N := some 174) (v := ?_) (a' := ?_) #[true, true, true, false, true, true, true, true, false, true, false, false, true, true, false, false, false, false, false, false, false, false, false, false] rfl rfl (by kernel_rfl) (fun _ _ _ h => h) (Or.inl ⟨by rfl, ?_⟩) ?_ ?_
                 rotate_left
                 ·intro w'
                  go_simp
                  with_reducible rfl
                 rotate_left
                 ·simp only [Act.put, List.setIfInBounds_toArray, List.set_cons_zero, List.set_cons_succ, i64_w, i32_w]
                  rfl
                 refine pure_ (i := 14) (N := some 175) (v := ?_) (a' := ?_) #[true, true, true, false, true, true, true, true, false, true, false, false, true, true, true, false, false, false, false, false, false, false, false, false] rfl rfl (by kernel_rfl) (fun _ _ _ h => h) (Or.inl ⟨by rfl, ?_⟩) ?_ ?_
                 rotate_left
                 ·intro w'
                  go_simp
                  with_reducible rfl
                 rotate_left
                 ·simp only [Act.put, List.setIfInBounds_toArray, List.set_cons_zero, List.set_cons_succ, i64_w, i32_w]
                  rfl
                 refine pure_ (i := 15) (N := some 176) (v := ?_) (a' := ?_) #[true, true, true, false, true, true, true, true, false, true, false, false, true, true, true, true, false, false, false, false, false, false, false, false] rfl rfl (by kernel_rfl) (fun _ _ _ h => h) (Or.inl ⟨by rfl, ?_⟩) ?_ ?_
                 rotate_left
                 ·intro w'
                  go_simp
                  with_reducible rfl
                 rotate_left
                 ·simp only [Act.put, List.setIfInBounds_toArray, List.set_cons_zero, List.set_cons_succ, i64_w, i32_w]
                  rfl
                 refine pure_ (i := 17) (N := some 178) (v := ?_) (a' := ?_) #[true, true, true, false, true, true, true, true, false, true, false, false, true, true, true, true, false, true, false, false, false, false, false, false] rfl rfl (by kernel_rfl) (fun _ _ _ h => h) (Or.inl ⟨by rfl, ?_⟩) ?_ ?_
                 rotate_left
                 ·intro w'
                  go_simp
                  with_reducible rfl
                 rotate_left
                 ·simp only [Act.put, List.setIfInBounds_toArray, List.set_cons_zero, List.set_cons_succ, i64_w, i32_w]
                  rfl
                 refine take_ (i := 3) (N := some 164) (v := ?_) (a' := ?_) #[true, true, true, true, true, true, true, true, false, true, false, false, true, true, true, true, false, true, false, false, false, false, false, false] rfl rfl (by kernel_rfl) (fun _ _ _ h => h) (Or.inl ⟨by rfl, ?_⟩) hHeld ?_ ?_
                 rotate_left
                 ·rintro w' ⟨s0, s1, s2, s3⟩
                  go_simp
                  with_reducible rfl
                 rotate_left
                 ·simp only [Act.put, List.setIfInBounds_toArray, List.set_cons_zero, List.set_cons_succ, i64_w, i32_w]
                  rfl
                 refine take_ (i := 8) (N := some 169) (v := ?_) (a' := ?_) #[true, true, true, true, true, true, true, true, true, true, false, false, true, true, true, true, false, true, false, false, false, false, false, false] rfl rfl (by kernel_rfl) (fun _ _ _ h => h) (Or.inl ⟨by rfl, ?_⟩) hHeld ?_ ?_
                 rotate_left
                 ·rintro w' ⟨s0, s1, s2, s3⟩
                  go_simp
                  with_reducible rfl
                 rotate_left
                 ·simp only [Act.put, List.setIfInBounds_toArray, List.set_cons_zero, List.set_cons_succ, i64_w, i32_w]
                  rfl
                 refine pure_ (i := 10) (N := some 171) (v := ?_) (a' := ?_) #[true, true, true, true, true, true, true, true, true, true, true, false, true, true, true, true, false, true, false, false, false, false, false, false] rfl rfl (by kernel_rfl) (fun _ _ _ h => h) (Or.inl ⟨by rfl, ?_⟩) ?_ ?_
                 rotate_left
                 ·intro w'
                  go_simp
                  with_reducible rfl
                 rotate_left
                 ·simp only [Act.put, List.setIfInBounds_toArray, List.set_cons_zero, List.set_cons_succ, i64_w, i32_w]
                  rfl
                 refine take_ (i := 11) (N := some 172) (v := ?_) (a' := ?_) #[true, true, true, true, true, true, true, true, true, true, true, true, true, true, true, true, false, true, false, false, false, false, false, false] rfl rfl (by kernel_rfl) (fun _ _ _ h => h) (Or.inl ⟨by rfl, ?_⟩) hHeld ?_ ?_
                 rotate_left
                 ·rintro w' ⟨s0, s1, s2, s3⟩
                  go_simp
                  with_reducible rfl
                 rotate_left
                 ·simp only [Act.put, List.setIfInBounds_toArray, List.set_cons_zero, List.set_cons_succ, i64_w, i32_w]
                  rfl
                 refine take_ (i := 16) (N := some 177) (v := ?_) (a' := ?_) #[true, true, true, true, true, true, true, true, true, true, true, true, true, true, true, true, true, true, false, false, false, false, false, false] rfl rfl (by kernel_rfl) (fun _ _ _ h => h) (Or.inl ⟨by rfl, ?_⟩) hHeld ?_ ?_
                 rotate_left
                 ·rintro w' ⟨s0, s1, s2, s3⟩
                  go_simp
                  with_reducible rfl
                 rotate_left
                 ·simp only [Act.put, List.setIfInBounds_toArray, List.set_cons_zero, List.set_cons_succ, i64_w, i32_w]
                  rfl
                 refine pure_ (i := 18) (N := some 179) (v := ?_) (a' := ?_) #[true, true, true, true, true, true, true, true, true, true, true, true, true, true, true, true, true, true, true, false, false, false, false, false] rfl rfl (by kernel_rfl) (fun _ _ _ h => h) (Or.inl ⟨by rfl, ?_⟩) ?_ ?_
                 rotate_left
                 ·intro w'
                  go_simp
                  with_reducible rfl
                 rotate_left
                 ·simp only [Act.put, List.setIfInBounds_toArray, List.set_cons_zero, List.set_cons_succ, i64_w, i32_w]
                  rfl
                 refine take_ (i := 19) (N := some 180) (v := ?_) (a' := ?_) #[true, true, true, true, true, true, true, true, true, true, true, true, true, true, true, true, true, true, true, true, false, false, false, false] rfl rfl (by kernel_rfl) (fun _ _ _ h => h) (Or.inl ⟨by rfl, ?_⟩) hHeld ?_ ?_
                 rotate_left
                 ·rintro w' ⟨s0, s1, s2, s3⟩
                  go_simp
                  with_reducible rfl
                 rotate_left
                 ·simp only [Act.put, List.setIfInBounds_toArray, List.set_cons_zero, List.set_cons_succ, i64_w, i32_w]
                  rfl
                 refine one_ (i := 20) (N := some 181) #[true, true, true, true, true, true, true, true, true, true, true, true, true, true, true, true, true, true, true, true, true, false, false, false] rfl rfl (by kernel_rfl) (by decide) (fun K hK => ?_)
                 refine goes_ Try.func29 (by kernel_rfl) rfl #[.int .u8 (d.toNat : Int), .int .u8 (y.toNat : Int)] (by rfl) rfl rfl (by simp only [List.map_toArray, List.map_cons, List.map_nil]; rfl) ?_
                 with_reducible refine ((ref_mul d y _)).mono ?_
                 rintro e w6 ⟨rfl, hdr⟩
                 refine ⟨_, rfl, ?_⟩
                 obtain ⟨f1, f2, f3, f4, f5⟩ := hstay.out w6 hdr
                 have HF7 := Lib.hid (HFIN.out w6 hdr)
                 refine hK.out _ _ ⟨f1, f2, f3, f4⟩ (fun hHeld => ?_)
                 clear hK K
                 refine norm_ (a' := ?_) ?_ ?_
                 rotate_left
                 ·show Act.put _ (some 181) _ = _
                  simp only [Act.put, List.setIfInBounds_toArray, List.set_cons_zero, List.set_cons_succ, i64_w, i32_w]
                  rfl
                 refine pure_ (i := 21) (N := some 182) (v := ?_) (a' := ?_) #[true, true, true, true, true, true, true, true, true, true, true, true, true, true, true, true, true, true, true, true, true, true, false, false] rfl rfl (by kernel_rfl) (fun _ _ _ h => h) (Or.inl ⟨by rfl, ?_⟩) ?_ ?_
                 rotate_left
                 ·intro w'
                  go_simp
                  with_reducible rfl
                 rotate_left
                 ·simp only [Act.put, List.setIfInBounds_toArray, List.set_cons_zero, List.set_cons_succ, i64_w, i32_w]
                  rfl
                 refine pure_ (i := 22) (N := some 183) (v := ?_) (a' := ?_) #[true, true, true, true, true, true, true, true, true, true, true, true, true, true, true, true, true, true, true, true, true, true, true, false] rfl rfl (by kernel_rfl) (fun _ _ _ h => h) (Or.inl ⟨by rfl, ?_⟩) ?_ ?_
                 rotate_left
                 ·intro w'
                  go_simp
                  with_reducible rfl
                 rotate_left
                 ·simp only [Act.put, List.setIfInBounds_toArray, List.set_cons_zero, List.set_cons_succ, i64_w, i32_w]
                  rfl
                 refine last_ (i := 23) (N := none) #[true, true, true, true, true, true, true, true, true, true, true, true, true, true, true, true, true, true, true, true, true, true, true, true] rfl rfl (by kernel_rfl) (by decide) (fun K hK => ?_)
                 refine skip_ (w1 := ?_) (by rfl) rfl ?_ ?_
                 rotate_left
                 ·go_simp
                  rfl
                 refine hK.out _ _ ?_
                 clear hK K
                 refine done_ (by kernel_rfl) ?_
                 go_wp2
                 exact ⟨⟨j + 1, by omega, by go_num, HF7.out⟩, by simp [intOf]; omega⟩
                ·obtain rfl : k = j := by omega
                 have hdone : Sv w wr lo mid hi_ gm_ gl k L (addRow i col d M3) S3 := hsj.congr (fun x' _ b' hb' => addTo_done d M3 x' b' hb') (fun _ _ _ _ => rfl)
                 have i5 : (0 : Int) ≤ (i : Int) := by omega
                 have i6 : (i : Int) < (k : Int) := by have := HI.out.1; omega
                 have HSX := Lib.hid hdone
                 clear hsj hm hdone h1
                 obtain ⟨wo, hwo⟩ : ∃ wo, wo = wr := ⟨_, rfl⟩
                 subst hwo
                 go_wp2_with fail
                 go_loopw [20] (fun z wr => ∃ j : Nat, j ≤ L ∧ z = .int .i64 j ∧ Sv w wr lo mid hi_ gm_ gl k L (addRow i col d M3) (addTo i col d j S3)) (fun z _ => L - (intOf z).toNat)
                 case atStart => exact ⟨0, by omega, rfl, by rw [addTo_zero]; exact HSX.out⟩
                 case round =>
                  obtain ⟨j, hj, rfl, hsj⟩ := hrel
                  clear HSX
                  obtain ⟨A_, cp_, bk_, hm⟩ := hsj.l
                  have h1 := hm.head i HI.out.1
                  by_cases hjl : j < L
                  ·have h2 := hm.head col HK.out
                   have hrw := hm.row i HI.out.1
                   have hrc := hm.row col HK.out
                   rw [hrw.at_ (by omega)] at h1
                   rw [hrc.at_ (by omega)] at h2
                   have h3 := hrw.cell j hjl
                   have h4 := hrc.cell j hjl
                   rw [addTo_at] at h3
                   rw [addTo_src d S3 HI.out.2] at h4
                   obtain ⟨x, hx⟩ : ∃ x, x = S3 i j := ⟨_, rfl⟩
                   obtain ⟨y, hy⟩ : ∃ y, y = S3 col j := ⟨_, rfl⟩
                   rw [← hx] at h3
                   rw [← hy] at h4
                   obtain ⟨bi, hbi⟩ : ∃ b, b = bk_ i := ⟨_, rfl⟩
                   obtain ⟨bc, hbc⟩ : ∃ b, b = bk_ col := ⟨_, rfl⟩
                   obtain ⟨ui, hui⟩ : ∃ cv, cv = cp_ i := ⟨_, rfl⟩
                   obtain ⟨uc, huc⟩ : ∃ cv, cv = cp_ col := ⟨_, rfl⟩
                   rw [← hbi, ← hui] at h1
                   rw [← hbc, ← huc] at h2
                   rw [← hbi] at h3
                   rw [← hbc] at h4
                   have bd : Below wr.heap.size wr wr.drew := ⟨rfl, rfl, rfl, Nat.le_refl _, fun _ _ => rfl⟩
                   have hxx0 := u8_xor_all x (gm d y)
                   obtain ⟨v, hv⟩ : ∃ v, v = x ^^^ gm d y := ⟨_, rfl⟩
                   have hxx : bits .xor .u8 (x.toNat : Int) ((gm d y).toNat : Int) = (v.toNat : Int) := by rw [hv]; exact hxx0
                   have hfin : ∀ w6, Drawn0 wr.drew w6 → Sv w (w6.setCell ⟨bi, j, none⟩ (.int .u8 (v.toNat : Int))) lo mid hi_ gm_ gl k L (addRow i col d M3) (addTo i col d (j + 1) S3) := fun w6 hd6 => by
                    have hb6 := bd.trans hd6.below
                    have h := (hsj.below hb6).setS (hm.below (by have := hsj.lm; have := hsj.hh; omega) hb6) HI.out.1 hjl v
                    rw [← hbi] at h
                    exact h.congr (fun _ _ _ _ => rfl) (fun x' _ b' _ => by rw [hv, hx, hy]; exact (addTo_step d S3 x' b').symm)
                   have hstay0 : ∀ w6, Drawn0 wr.drew w6 → w6.cell? ⟨gl, i, none⟩ = some (.slice (some ⟨bi, 0, none⟩) L ui) ∧ w6.cell? ⟨gl, col, none⟩ = some (.slice (some ⟨bc, 0, none⟩) L uc) ∧ w6.cell? ⟨bi, j, none⟩ = some (.int .u8 (x.toNat : Int)) ∧ w6.cell? ⟨bc, j, none⟩ = some (.int .u8 (y.toNat : Int)) ∧ w6.frozen? ⟨bi, j, none⟩ = false := fun w6 hd6 => by
                    have hb6 := bd.trans hd6.below
                    refine ⟨pw_cell_below hb6 h1, pw_cell_below hb6 h2, pw_cell_below hb6 h3, pw_cell_below hb6 h4, ?_⟩
                    rw [hbi]
                    exact ((hm.below (by have := hsj.lm; have := hsj.hh; omega) hb6).row i HI.out.1).frz (by omega) j
                   have hstay := Lib.hid hstay0
                   have HFIN := Lib.hid hfin
                   have i1 : (0 : Int) ≤ (j : Int) := by omega
                   have i2 : (j : Int) < (L : Int) := by omega
                   have i3 : (0 : Int) ≤ (col : Int) := by omega
                   have i4 : (col : Int) < (k : Int) := by have := HK.out; omega
                   have i5 : (0 : Int) ≤ (i : Int) := by omega
                   have i6 : (i : Int) < (k : Int) := by have := HI.out.1; omega
                   clear hstay0 hfin hsj hm hrw hrc hx hy hv hxx0 hbi hbc hui huc bd
                   go_wp2
                   refine start_ (n := 24) (S := fun w' => w'.cell? ⟨gl, i, none⟩ = some (.slice (some ⟨bi, 0, none⟩) L ui) ∧ w'.cell? ⟨gl, col, none⟩ = some (.slice (some ⟨bc, 0, none⟩) L uc) ∧ w'.cell? ⟨bi, j, none⟩ = some (.int .u8 (x.toNat : Int)) ∧ w'.cell? ⟨bc, j, none⟩ = some (.int .u8 (y.toNat : Int))) (ds := [23]) #[false, false, false, false, false, false, false, false, false, false, false, false, false, false, false, false, false, false, false, false, false, false, false, false] (by kernel_rfl) rfl rfl ⟨h1, h2, h3, h4⟩ (fun hHeld => ?_)
                   refine pure_ (i := 0) (N := some 193) (v := ?_) (a' := ?_) #[true, false, false, false, false, false, false, false, false, false, false, false, false, false, false, false, false, false, false, false, false, false, false, false] rfl rfl (by kernel_rfl) (fun _ _ _ h => h) (Or.inl ⟨by rfl, ?_⟩) ?_ ?_
                   rotate_left
                   ·intro w'
                    go_simp
                    with_reducible rfl
                   rotate_left
                   ·simp only [Act.put, List.setIfInBounds_toArray, List.set_cons_zero, List.set_cons_succ, i64_w, i32_w]
                    rfl
                   refine pure_ (i := 1) (N := some 194) (v := ?_) (a' := ?_) #[true, true, false, false, false, false, false, false, false, false, false, false, false, false, false, false, false, false, false, false, false, false, false, false] rfl rfl (by kernel_rfl) (fun _ _ _ h => h) (Or.inl ⟨by rfl, ?_⟩) ?_ ?_
                   rotate_left
                   ·intro w'
                    go_simp
                    with_reducible rfl
                   rotate_left
                   ·simp only [Act.put, List.setIfInBounds_toArray, List.set_cons_zero, List.set_cons_succ, i64_w, i32_w]
                    rfl
                   refine pure_ (i := 2) (N := some 195) (v := ?_) (a' := ?_) #[true, true, true, false, false, false, false, false, false, false, false, false, false, false, false, false, false, false, false, false, false, false, false, false] rfl rfl (by kernel_rfl) (fun _ _ _ h => h) (Or.inl ⟨by rfl, ?_⟩) ?_ ?_
                   rotate_left
                   ·intro w'
                    go_simp
                    with_reducible rfl
                   rotate_left
                   ·simp only [Act.put, List.setIfInBounds_toArray, List.set_cons_zero, List.set_cons_succ, i64_w, i32_w]
                    rfl
                   refine pure_ (i := 4) (N := some 197) (v := ?_) (a' := ?_) #[true, true, true, false, true, false, false, false, false, false, false, false, false, false, false, false, false, false, false, false, false, false, false, false] rfl rfl (by kernel_rfl) (fun _ _ _ h => h) (Or.inl ⟨by rfl, ?_⟩) ?_ ?_
                   rotate_left
                   ·intro w'
                    go_simp
                    with_reducible rfl
                   rotate_left
                   ·simp only [Act.put, List.setIfInBounds_toArray, List.set_cons_zero, List.set_cons_succ, i64_w, i32_w]
                    rfl
                   refine pure_ (i := 5) (N := some 198) (v := ?_) (a' := ?_) #[true, true, true, false, true, true, false, false, false, false, false, false, false, false, false, false, false, false, false, false, false, false, false, false] rfl rfl (by kernel_rfl) (fun _ _ _ h => h) (Or.inl ⟨by rfl, ?_⟩) ?_ ?_
                   rotate_left
                   ·intro w'
                    go_simp
                    with_reducible rfl
                   rotate_left
                   ·simp only [Act.put, List.setIfInBounds_toArray, List.set_cons_zero, List.set_cons_succ, i64_w, i32_w]
                    rfl
                   refine pure_ (i := 6) (N := some 199) (v := ?_) (a' := ?_) #[true, true, true, false, true, true, true, false, false, false, false, false, false, false, false, false, false, false, false, false, false, false, false, false] rfl rfl (by kernel_rfl) (fun _ _ _ h => h) (Or.inl ⟨by rfl, ?_⟩) ?_ ?_
                   rotate_left
                   ·intro w'
                    go_simp
                    with_reducible rfl
                   rotate_left
                   ·simp only [Act.put, List.setIfInBounds_toArray, List.set_cons_zero, List.set_cons_succ, i64_w, i32_w]
                    rfl
                   refine pure_ (i := 7) (N := some 200) (v := ?_) (a' := ?_) #[true, true, true, false, true, true, true, true, false, false, false, false, false, false, false, false, false, false, false, false, false, false, false, false] rfl rfl (by kernel_rfl) (fun _ _ _ h => h) (Or.inl ⟨by rfl, ?_⟩) ?_ ?_
                   rotate_left
                   ·intro w'
                    go_simp
                    with_reducible rfl
                   rotate_left
                   ·simp only [Act.put, List.setIfInBounds_toArray, List.set_cons_zero, List.set_cons_succ, i64_w, i32_w]
                    rfl
                   refine pure_ (i := 9) (N := some 202) (v := ?_) (a' := ?_) #[true, true, true, false, true, true, true, true, false, true, false, false, false, false, false, false, false, false, false, false, false, false, false, false] rfl rfl (by kernel_rfl) (fun _ _ _ h => h) (Or.inl ⟨by rfl, ?_⟩) ?_ ?_
                   rotate_left
                   ·intro w'
                    go_simp
                    with_reducible rfl
                   rotate_left
                   ·simp only [Act.put, List.setIfInBounds_toArray, List.set_cons_zero, List.set_cons_succ, i64_w, i32_w]
                    rfl
                   refine pure_ (i := 12) (N := some 205) (v := ?_) (a' := ?_) #[true, true, true, false, true, true, true, true, false, true, false, false, true, false, false, false, false, false, false, false, false, false, false, false] rfl rfl (by kernel_rfl) (fun _ _ _ h => h) (Or.inl ⟨by rfl, ?_⟩) ?_ ?_
                   rotate_left
                   ·intro w'
                    go_simp
                    with_reducible rfl
                   rotate_left
                   ·simp only [Act.put, List.setIfInBounds_toArray, List.set_cons_zero, List.set_cons_succ, i64_w, i32_w]
                    rfl
                   refine pure_ (i := 13) (N := some 206) (v := ?_) (a' := ?_) #[true, true, true, false, true, true, true, true, false, true, false, false, true, true, false, false, false, false, false, false, false, false, false, false] rfl rfl (by kernel_rfl) (fun _ _ _ h => h) (Or.inl ⟨by rfl, ?_⟩) ?_ ?_
                   rotate_left
                   ·intro w'
                    go_simp
                    with_reducible rfl
                   rotate_left
                   ·simp only [Act.put, List.setIfInBounds_toArray, List.set_cons_zero, List.set_cons_succ, i64_w, i32_w]
                    rfl
                   refine pure_ (i := 14) (N := some 207) (v := ?_) (a' := ?_) #[true, true, true, false, true, true, true, true, false, true, false, false, true, true, true, false, false, false, false, false, false, false, false, false] rfl rfl (by kernel_rfl) (fun _ _ _ h => h) (Or.inl ⟨by rfl, ?_⟩) ?_ ?_
                   rotate_left
                   ·intro w'
                    go_simp
                    with_reducible rfl
                   rotate_left
                   ·simp only [Act.put, List.setIfInBounds_toArray, List.set_cons_zero, List.set_cons_succ, i64_w, i32_w]
                    rfl
                   refine pure_ (i := 15) (N := some 208) (v := ?_) (a' := ?_) #[true, true, true, false, true, true, true, true, false, true, false, false, true, true, true, true, false, false, false, false, false, false, false, false] rfl rfl (by kernel_rfl) (fun _ _ _ h => h) (Or.inl ⟨by rfl, ?_⟩) ?_ ?_
                   rotate_left
                   ·intro w'
                    go_simp
                    with_reducible rfl
                   rotate_left
                   ·simp only [Act.put, List.setIfInBounds_toArray, List.set_cons_zero, List.set_cons_succ, i64_w, i32_w]
                    rfl
                   refine pure_ (i := 17) (N := some 210) (v := ?_) (a' := ?_) #[true, true, true, false, true, true, true, true, false, true, false, false, true, true, true, true, false, true, false, false, false, false, false, false] rfl rfl (by kernel_rfl) (fun _ _ _ h => h) (Or.inl ⟨by rfl, ?_⟩) ?_ ?_
                   rotate_left
                   ·intro w'
                    go_simp
                    with_reducible rfl
                   rotate_left
                   ·simp only [Act.put, List.setIfInBounds_toArray, List.set_cons_zero, List.set_cons_succ, i64_w, i32_w]
                    rfl
                   refine take_ (i := 3) (N := some 196) (v := ?_) (a' := ?_) #[true, true, true, true, true, true, true, true, false, true, false, false, true, true, true, true, false, true, false, false, false, false, false, false] rfl rfl (by kernel_rfl) (fun _ _ _ h => h) (Or.inl ⟨by rfl, ?_⟩) hHeld ?_ ?_
                   rotate_left
                   ·rintro w' ⟨s0, s1, s2, s3⟩
                    go_simp
                    with_reducible rfl
                   rotate_left
                   ·simp only [Act.put, List.setIfInBounds_toArray, List.set_cons_zero, List.set_cons_succ, i64_w, i32_w]
                    rfl
                   refine take_ (i := 8) (N := some 201) (v := ?_) (a' := ?_) #[true, true, true, true, true, true, true, true, true, true, false, false, true, true, true, true, false, true, false, false, false, false, false, false] rfl rfl (by kernel_rfl) (fun _ _ _ h => h) (Or.inl ⟨by rfl, ?_⟩) hHeld ?_ ?_
                   rotate_left
                   ·rintro w' ⟨s0, s1, s2, s3⟩
                    go_simp
                    with_reducible rfl
                   rotate_left
                   ·simp only [Act.put, List.setIfInBounds_toArray, List.set_cons_zero, List.set_cons_succ, i64_w, i32_w]
                    rfl
                   refine pure_ (i := 10) (N := some 203) (v := ?_) (a' := ?_) #[true, true, true, true, true, true, true, true, true, true, true, false, true, true, true, true, false, true, false, false, false, false, false, false] rfl rfl (by kernel_rfl) (fun _ _ _ h => h) (Or.inl ⟨by rfl, ?_⟩) ?_ ?_
                   rotate_left
                   ·intro w'
                    go_simp
                    with_reducible rfl
                   rotate_left
                   ·simp only [Act.put, List.setIfInBounds_toArray, List.set_cons_zero, List.set_cons_succ, i64_w, i32_w]
                    rfl
                   refine take_ (i := 11) (N := some 204) (v := ?_) (a' := ?_) #[true, true, true, true, true, true, true, true, true, true, true, true, true, true, true, true, false, true, false, false, false, false, false, false] rfl rfl (by kernel_rfl) (fun _ _ _ h => h) (Or.inl ⟨by rfl, ?_⟩) hHeld ?_ ?_
                   rotate_left
                   ·rintro w' ⟨s0, s1, s2, s3⟩
                    go_simp
                    with_reducible rfl
                   rotate_left
                   ·simp only [Act.put, List.setIfInBounds_toArray, List.set_cons_zero, List.set_cons_succ, i64_w, i32_w]
                    rfl
                   refine take_ (i := 16) (N := some 209) (v := ?_) (a' := ?_) #[true, true, true, true, true, true, true, true, true, true, true, true, true, true, true, true, true, true, false, false, false, false, false, false] rfl rfl (by kernel_rfl) (fun _ _ _ h => h) (Or.inl ⟨by rfl, ?_⟩) hHeld ?_ ?_
                   rotate_left
                   ·rintro w' ⟨s0, s1, s2, s3⟩
                    go_simp
                    with_reducible rfl
                   rotate_left
                   ·simp only [Act.put, List.setIfInBounds_toArray, List.set_cons_zero, List.set_cons_succ, i64_w, i32_w]
                    rfl
                   refine pure_ (i := 18) (N := some 211) (v := ?_) (a' := ?_) #[true, true, true, true, true, true, true, true, true, true, true, true, true, true, true, true, true, true, true, false, false, false, false, false] rfl rfl (by kernel_rfl) (fun _ _ _ h => h) (Or.inl ⟨by rfl, ?_⟩) ?_ ?_
                   rotate_left
                   ·intro w'
                    go_simp
                    with_reducible rfl
                   rotate_left
                   ·simp only [Act.put, List.setIfInBounds_toArray, List.set_cons_zero, List.set_cons_succ, i64_w, i32_w]
                    rfl
                   refine take_ (i := 19) (N := some 212) (v := ?_) (a' := ?_) #[true, true, true, true, true, true, true, true, true, true, true, true, true, true, true, true, true, true, true, true, false, false, false, false] rfl rfl (by kernel_rfl) (fun _ _ _ h => h) (Or.inl ⟨by rfl, ?_⟩) hHeld ?_ ?_
                   rotate_left
                   ·rintro w' ⟨s0, s1, s2, s3⟩
                    go_simp
                    with_reducible rfl
                   rotate_left
                   ·simp only [Act.put, List.setIfInBounds_toArray, List.set_cons_zero, List.set_cons_succ, i64_w, i32_w]
                    rfl
                   refine one_ (i := 20) (N := some 213) #[true, true, true, true, true, true, true, true, true, true, true, true, true, true, true, true, true, true, true, true, true, false, false, false] rfl rfl (by kernel_rfl) (by decide) (fun K hK => ?_)
                   refine goes_ Try.func29 (by kernel_rfl) rfl #[.int .u8 (d.toNat : Int), .int .u8 (y.toNat : Int)] (by rfl) rfl rfl (by simp only [List.map_toArray, List.map_cons, List.map_nil]; rfl) ?_
                   with_reducible refine ((ref_mul d y _)).mono ?_
                   rintro e w6 ⟨rfl, hdr⟩
                   refine ⟨_, rfl, ?_⟩
                   obtain ⟨f1, f2, f3, f4, f5⟩ := hstay.out w6 hdr
                   have HF7 := Lib.hid (HFIN.out w6 hdr)
                   refine hK.out _ _ ⟨f1, f2, f3, f4⟩ (fun hHeld => ?_)
                   clear hK K
                   refine norm_ (a' := ?_) ?_ ?_
                   rotate_left
                   ·show Act.put _ (some 213) _ = _
                    simp only [Act.put, List.setIfInBounds_toArray, List.set_cons_zero, List.set_cons_succ, i64_w, i32_w]
                    rfl
                   refine pure_ (i := 21) (N := some 214) (v := ?_) (a' := ?_) #[true, true, true, true, true, true, true, true, true, true, true, true, true, true, true, true, true, true, true, true, true, true, false, false] rfl rfl (by kernel_rfl) (fun _ _ _ h => h) (Or.inl ⟨by rfl, ?_⟩) ?_ ?_
                   rotate_left
                   ·intro w'
                    go_simp
                    with_reducible rfl
                   rotate_left
                   ·simp only [Act.put, List.setIfInBounds_toArray, List.set_cons_zero, List.set_cons_succ, i64_w, i32_w]
                    rfl
                   refine pure_ (i := 22) (N := some 215) (v := ?_) (a' := ?_) #[true, true, true, true, true, true, true, true, true, true, true, true, true, true, true, true, true, true, true, true, true, true, true, false] rfl rfl (by kernel_rfl) (fun _ _ _ h => h) (Or.inl ⟨by rfl, ?_⟩) ?_ ?_
                   rotate_left
                   ·intro w'
                    go_simp
                    with_reducible rfl
                   rotate_left
                   ·simp only [Act.put, List.setIfInBounds_toArray, List.set_cons_zero, List.set_cons_succ, i64_w, i32_w]
                    rfl
                   refine last_ (i := 23) (N := none) #[true, true, true, true, true, true, true, true, true, true, true, true, true, true, true, true, true, true, true, true, true, true, true, true] rfl rfl (by kernel_rfl) (by decide) (fun K hK => ?_)
                   refine skip_ (w1 := ?_) (by rfl) rfl ?_ ?_
                   rotate_left
                   ·go_simp
                    rfl
                   refine hK.out _ _ ?_
                   clear hK K
                   refine done_ (by kernel_rfl) ?_
                   go_wp2
                   exact ⟨⟨j + 1, by omega, by go_num, HF7.out⟩, by simp [intOf]; omega⟩
                  ·obtain rfl : L = j := by omega
                   have hdone : Sv w wr lo mid hi_ gm_ gl k L (addRow i col d M3) (addRow i col d S3) := hsj.congr (fun _ _ _ _ => rfl) (fun x' _ b' hb' => addTo_done d S3 x' b' hb')
                   have i5 : (0 : Int) ≤ (i : Int) := by omega
                   have i6 : (i : Int) < (k : Int) := by have := HI.out.1; omega
                   have HSX := Lib.hid hdone
                   clear hsj hm hdone
                   obtain ⟨wo, hwo⟩ : ∃ wo, wo = wr := ⟨_, rfl⟩
                   subst hwo
                   go_wp2_with fail
                   exact ⟨⟨i + 1, by omega, by go_num, by rw [part_succ HI.out.2, part_succ HI.out.2, ← HM3.out.1, ← HM3.out.2, ← HD.out]; exact HSX.out⟩, by simp [intOf]; omega⟩
            ·obtain rfl : k = i := by omega
             have HSI := Lib.hid hsi
             clear hsi
             go_wp2_with fail
             exact ⟨⟨col + 1, _, _, by have := HK.out; omega, by go_num, HRL.out.1.clr HK.out HPV.out.2.2.1 HPV.out.2.2.2.1, clr_cols HRL.out.2 HPV.out.1 HPV.out.2.2.1 HPV.out.2.2.2.1 rfl, by unfold Lin.clr; rw [← HM2.out.1, ← HM2.out.2]; exact HSI.out⟩, by have := HK.out; simp [intOf]; omega⟩
    ·obtain rfl : k = col := by omega
     have HRL : Hid (Rel k (pickM k zs) (fn m) M S ∧ Cols k k id M) := Lib.hid ⟨hrl, hcols⟩
     have HSV := Lib.hid hsv
     clear hrl hcols hsv
     go_wp2_with fail
     go_ret
     obtain ⟨A, cp, bk, hl⟩ := HSV.out.l
     refine ⟨_, _, M, S, rfl, ?_, HRL.out.1, fun i hi j hj => HRL.out.2 j hj i hi, HSV.out.bel⟩
     rw [← HLD.out]
     exact hl.rd (by omega) (by omega) hcl9
end Go.Proofs.Ytoijjlpkoniipaa
end
