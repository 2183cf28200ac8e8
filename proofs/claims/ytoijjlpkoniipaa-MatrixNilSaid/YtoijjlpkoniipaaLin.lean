/- Sums, combinations of rows, independence and rank over the field of bytes: matrices are functions of two numbers. Plain, no program in sight, no condition. -/
import Derived.Test.YtoijjlpkoniipaaGf
namespace Go.Proofs.Ytoijjlpkoniipaa.Lin
open Gf

abbrev M := Nat → Nat → UInt8

/-- The sum of f 0, .., f (n - 1). -/
def sm : Nat → (Nat → UInt8) → UInt8
  | 0, _ => 0
  | n + 1, f => sm n f ^^^ f n

theorem sm_congr {n : Nat} {f g : Nat → UInt8} (h : ∀ i, i < n → f i = g i) : sm n f = sm n g := by
  induction n with
  | zero => rfl
  | succ n ih => simp only [sm]; rw [ih (fun i hi => h i (by omega)), h n (by omega)]
theorem sm_zero {n : Nat} {f : Nat → UInt8} (h : ∀ i, i < n → f i = 0) : sm n f = 0 := by
  induction n with
  | zero => rfl
  | succ n ih => simp only [sm]; rw [ih (fun i hi => h i (by omega)), h n (by omega)]; rfl
theorem sm_xor (n : Nat) (f g : Nat → UInt8) : sm n (fun i => f i ^^^ g i) = sm n f ^^^ sm n g := by
  induction n with
  | zero => simp [sm]
  | succ n ih => simp only [sm]; rw [ih]; ac_rfl
theorem gm_sm (c : UInt8) (n : Nat) (f : Nat → UInt8) : gm c (sm n f) = sm n (fun i => gm c (f i)) := by
  induction n with
  | zero => exact gm_zero_right c
  | succ n ih => simp only [sm]; rw [gm_xor, ih]
theorem sm_gm (c : UInt8) (n : Nat) (f : Nat → UInt8) : gm (sm n f) c = sm n (fun i => gm (f i) c) := by
  rw [gm_comm, gm_sm]; exact sm_congr fun i _ => gm_comm _ _
theorem sm_swap (n m : Nat) (f : Nat → Nat → UInt8) : sm n (fun i => sm m (fun j => f i j)) = sm m (fun j => sm n (fun i => f i j)) := by
  induction n with
  | zero => simp only [sm]; exact (sm_zero fun _ _ => rfl).symm
  | succ n ih => simp only [sm]; rw [ih, sm_xor]
theorem sm_one {n : Nat} {f : Nat → UInt8} {i : Nat} (hi : i < n) (h : ∀ j, j < n → j ≠ i → f j = 0) : sm n f = f i := by
  induction n with
  | zero => omega
  | succ n ih =>
    simp only [sm]
    by_cases hn : i = n
    · subst hn
      rw [sm_zero fun j hj => h j (by omega) (by omega)]; simp
    · rw [ih (by omega) fun j hj => h j (by omega), h n (by omega) (by omega)]; simp
def skip (p i : Nat) : Nat := if i < p then i else i + 1
theorem skip_lt {p i n : Nat} (hi : i < n) : skip p i < n + 1 := by unfold skip; split <;> omega
theorem skip_ne (p i : Nat) : skip p i ≠ p := by unfold skip; split <;> omega
theorem sm_skip {n p : Nat} (hp : p ≤ n) (f : Nat → UInt8) : sm (n + 1) f = f p ^^^ sm n (fun i => f (skip p i)) := by
  induction n with
  | zero =>
    have : p = 0 := by omega
    subst this
    simp [sm]
  | succ n ih =>
    by_cases h : p = n + 1
    · subst h
      have e : sm (n + 1) (fun i => f (skip (n + 1) i)) = sm (n + 1) f := sm_congr fun i hi => by unfold skip; rw [if_pos hi]
      rw [e]; simp only [sm]; ac_rfl
    · have e1 : sm (n + 1 + 1) f = sm (n + 1) f ^^^ f (n + 1) := rfl
      have e2 : sm (n + 1) (fun i => f (skip p i)) = sm n (fun i => f (skip p i)) ^^^ f (n + 1) := by
        simp only [sm]; congr 2; unfold skip; rw [if_neg (by omega)]
      rw [e1, ih (by omega), e2]; ac_rfl

/-! ### More unknowns than equations -/
theorem more_unknowns (s : Nat) : ∀ (r : Nat) (A : M), s < r → ∃ c : Nat → UInt8, (∃ i, i < r ∧ c i ≠ 0) ∧ ∀ k, k < s → sm r (fun i => gm (c i) (A i k)) = 0 := by
  induction s with
  | zero =>
    intro r A h
    exact ⟨fun _ => 1, ⟨0, h, by decide⟩, fun k hk => by omega⟩
  | succ s ih =>
    intro r A h
    by_cases hz : ∃ p, p < r ∧ A p s ≠ 0
    · obtain ⟨p, hp, hne⟩ := hz
      obtain ⟨q, rfl⟩ : ∃ q, r = q + 1 := ⟨r - 1, by omega⟩
      obtain ⟨c, ⟨i0, hi0, hc0⟩, hc⟩ := ih q (fun i k => A (skip p i) k ^^^ gm (gm (A (skip p i) s) (gi (A p s))) (A p k)) (by omega)
      have hback : ∀ i, (if skip p i < p then skip p i else skip p i - 1) = i := by
        intro i
        unfold skip
        by_cases hip : i < p
        · rw [if_pos hip, if_pos hip]
        · rw [if_neg hip, if_neg (by omega)]; rfl
      refine ⟨fun j => if j = p then sm q (fun i => gm (c i) (gm (A (skip p i) s) (gi (A p s)))) else c (if j < p then j else j - 1), ⟨skip p i0, skip_lt hi0, ?_⟩, ?_⟩
      · have h1 : (if skip p i0 = p then sm q (fun i => gm (c i) (gm (A (skip p i) s) (gi (A p s)))) else c (if skip p i0 < p then skip p i0 else skip p i0 - 1)) = c i0 := by
          rw [if_neg (skip_ne p i0), hback]
        exact fun e => hc0 (h1.symm.trans e)
      · intro k hk
        rw [sm_skip (p := p) (by omega)]
        have h1 : ∀ i, (if skip p i = p then sm q (fun i => gm (c i) (gm (A (skip p i) s) (gi (A p s)))) else c (if skip p i < p then skip p i else skip p i - 1)) = c i := by
          intro i
          rw [if_neg (skip_ne p i), hback]
        simp only [h1, if_true]
        have h2 : gm (sm q (fun i => gm (c i) (gm (A (skip p i) s) (gi (A p s))))) (A p k) ^^^ sm q (fun i => gm (c i) (A (skip p i) k)) =
            sm q (fun i => gm (c i) (A (skip p i) k ^^^ gm (gm (A (skip p i) s) (gi (A p s))) (A p k))) := by
          rw [sm_gm, ← sm_xor]
          refine sm_congr fun i _ => ?_
          rw [gm_xor, gm_assoc (c i) (gm _ _), UInt8.xor_comm]
        rw [h2]
        by_cases hks : k = s
        · subst hks
          refine sm_zero fun i _ => ?_
          rw [← gm_assoc (A (skip p i) k), gi_gm hne, gm_one]
          simp [gm_zero_right]
        · exact hc k (by omega)
    · obtain ⟨c, hc0, hc⟩ := ih r A (by omega)
      refine ⟨c, hc0, fun k hk => ?_⟩
      by_cases hks : k = s
      · subst hks
        refine sm_zero fun i hi => ?_
        have : A i k = 0 := Classical.byContradiction fun e => hz ⟨i, hi, e⟩
        rw [this, gm_zero_right]
      · exact hc k (by omega)

/-! ### Combinations, independence, rank -/
/-- v is a combination of the n rows V (in columns 0, .., m - 1). -/
def Sp (n m : Nat) (V : M) (v : Nat → UInt8) : Prop := ∃ c : Nat → UInt8, ∀ j, j < m → v j = sm n (fun i => gm (c i) (V i j))
/-- No row is a combination of others. -/
def Ind (n m : Nat) (V : M) : Prop := ∀ c : Nat → UInt8, (∀ j, j < m → sm n (fun i => gm (c i) (V i j)) = 0) → ∀ i, i < n → c i = 0

theorem coeffs {n m r : Nat} {V U : M} (h : ∀ i, i < r → Sp n m V (U i)) : ∃ C : M, ∀ i, i < r → ∀ j, j < m → U i j = sm n (fun t => gm (C i t) (V t j)) := by
  refine ⟨fun i => if hi : i < r then Classical.choose (h i hi) else fun _ => 0, fun i hi j hj => ?_⟩
  have := Classical.choose_spec (h i hi) j hj
  simp only [hi, dif_pos]
  exact this

theorem comb_comb (r n : Nat) (c : Nat → UInt8) (C V : M) (j : Nat) :
    sm r (fun i => gm (c i) (sm n (fun t => gm (C i t) (V t j)))) = sm n (fun t => gm (sm r (fun i => gm (c i) (C i t))) (V t j)) := by
  have h1 : sm r (fun i => gm (c i) (sm n (fun t => gm (C i t) (V t j)))) = sm r (fun i => sm n (fun t => gm (gm (c i) (C i t)) (V t j))) :=
    sm_congr fun i _ => by rw [gm_sm]; exact sm_congr fun t _ => gm_assoc _ _ _
  rw [h1, sm_swap]
  exact sm_congr fun t _ => (sm_gm _ _ _).symm

theorem Sp.self {n m : Nat} {V : M} {i : Nat} (hi : i < n) : Sp n m V (V i) :=
  ⟨fun t => if t = i then 1 else 0, fun j _ => by
    rw [sm_one hi (fun t _ ht => by simp only [ht, if_false, gm_zero_left])]
    simp only [if_true, one_gm]⟩
theorem Sp.trans {n k m : Nat} {V W : M} {v : Nat → UInt8} (h : Sp n m V v) (hV : ∀ i, i < n → Sp k m W (V i)) : Sp k m W v := by
  obtain ⟨c, hc⟩ := h
  obtain ⟨C, hC⟩ := coeffs hV
  refine ⟨fun t => sm n (fun i => gm (c i) (C i t)), fun j hj => ?_⟩
  rw [hc j hj, ← comb_comb]
  exact sm_congr fun i hi => by rw [hC i hi j hj]
theorem Sp.congr {n m : Nat} {V : M} {v w : Nat → UInt8} (h : Sp n m V v) (he : ∀ j, j < m → w j = v j) : Sp n m V w := by
  obtain ⟨c, hc⟩ := h
  exact ⟨c, fun j hj => (he j hj).trans (hc j hj)⟩
theorem Sp.zero {n m : Nat} {V : M} {v : Nat → UInt8} (he : ∀ j, j < m → v j = 0) : Sp n m V v :=
  ⟨fun _ => 0, fun j hj => by rw [he j hj]; exact (sm_zero fun i _ => gm_zero_left _).symm⟩
theorem Sp.mono {n k m : Nat} {V : M} {v : Nat → UInt8} (h : Sp n m V v) (hk : n ≤ k) : Sp k m V v := h.trans fun _ hi => Sp.self (by omega)

theorem steinitz {r s m : Nat} {U V : M} (hi : Ind r m U) (hs : ∀ i, i < r → Sp s m V (U i)) : r ≤ s := by
  rcases Nat.lt_or_ge s r with hlt | hge
  · exfalso
    obtain ⟨C, hC⟩ := coeffs hs
    obtain ⟨c, ⟨i, hir, hne⟩, hc⟩ := more_unknowns s r C hlt
    refine hne (hi c (fun j hj => ?_) i hir)
    have h1 : sm r (fun i => gm (c i) (U i j)) = sm r (fun i => gm (c i) (sm s (fun t => gm (C i t) (V t j)))) := sm_congr fun i hi => by rw [hC i hi j hj]
    rw [h1, comb_comb]
    exact sm_zero fun t ht => by rw [hc t ht, gm_zero_left]
  · exact hge

/-- The rank of the n rows A is r. -/
def IsRank (n m : Nat) (A : M) (r : Nat) : Prop := ∃ U : M, Ind r m U ∧ (∀ i, i < r → Sp n m A (U i)) ∧ ∀ i, i < n → Sp r m U (A i)

theorem IsRank.le {n m n' r r' : Nat} {A B : M} (h : IsRank n m A r) (k : IsRank n' m B r') (hs : ∀ i, i < n → Sp n' m B (A i)) : r ≤ r' := by
  obtain ⟨U, hi, hU, _⟩ := h
  obtain ⟨V, _, _, hV⟩ := k
  exact steinitz hi fun i hir => ((hU i hir).trans hs).trans hV
theorem IsRank.unique {n m r r' : Nat} {A : M} (h : IsRank n m A r) (k : IsRank n m A r') : r = r' :=
  Nat.le_antisymm (h.le k fun _ hi => Sp.self hi) (k.le h fun _ hi => Sp.self hi)
theorem IsRank.of_rows {n m n' r : Nat} {A B : M} (h : IsRank n m A r) (hab : ∀ i, i < n → Sp n' m B (A i)) (hba : ∀ i, i < n' → Sp n m A (B i)) : IsRank n' m B r := by
  obtain ⟨U, hi, hU, hA⟩ := h
  exact ⟨U, hi, fun i hir => (hU i hir).trans hab, fun i hin => (hba i hin).trans hA⟩
theorem IsRank.le_rows {n m r : Nat} {A : M} (h : IsRank n m A r) : r ≤ n := by
  obtain ⟨U, hi, hU, _⟩ := h
  exact steinitz hi hU
/-- The unit's rows. -/
def unit : M := fun i j => if i = j then 1 else 0
theorem sp_unit (n : Nat) (v : Nat → UInt8) : Sp n n unit v :=
  ⟨v, fun j hj => by rw [sm_one hj (fun t _ ht => by unfold unit; rw [if_neg ht, gm_zero_right])]; simp [unit, gm_one]⟩
theorem ind_unit (n : Nat) : Ind n n unit := fun c hc i hi => by
  have := hc i hi
  rw [sm_one hi (fun t _ ht => by unfold unit; rw [if_neg ht, gm_zero_right])] at this
  simpa [unit, gm_one] using this
theorem IsRank.le_cols {n m r : Nat} {A : M} (h : IsRank n m A r) : r ≤ m := by
  obtain ⟨U, hi, _, _⟩ := h
  exact steinitz hi fun i _ => sp_unit m (U i)
/-- A product's rank is at most the first one's. -/
theorem IsRank.mul_left {n k m r r' : Nat} {A B : M} (h : IsRank n m (fun i j => sm k (fun t => gm (A i t) (B t j))) r) (hA : IsRank n k A r') : r ≤ r' := by
  obtain ⟨U, hi, hU, _⟩ := h
  obtain ⟨V, _, _, hV⟩ := hA
  refine steinitz (V := fun i j => sm k (fun t => gm (V i t) (B t j))) hi fun i hir => (hU i hir).trans fun a han => ?_
  obtain ⟨c, hc⟩ := hV a han
  refine ⟨c, fun j _ => ?_⟩
  rw [comb_comb]
  exact sm_congr fun t ht => by rw [hc t ht]
theorem IsRank.mul_right {n k m r r' : Nat} {A B : M} (h : IsRank n m (fun i j => sm k (fun t => gm (A i t) (B t j))) r) (hB : IsRank k m B r') : r ≤ r' :=
  h.le hB fun i _ => ⟨A i, fun _ _ => rfl⟩

/-! ### Rows in steps: each has a column in which those behind it are 0 -/
/-- Of the n rows A some are 0, each other one has a column p i in which it isn't 0, and each one behind it is. cnt: how many aren't 0. -/
theorem isRank_steps {n m : Nat} {A : M} (p : Nat → Nat) (z : Nat → Bool) (cnt : Nat → Nat) (h0 : cnt 0 = 0) (hcnt : ∀ i, i < n → cnt (i + 1) = cnt i + (if z i then 0 else 1))
    (hz : ∀ i, i < n → z i = true → ∀ j, j < m → A i j = 0)
    (hp : ∀ i, i < n → z i = false → p i < m ∧ A i (p i) ≠ 0 ∧ ∀ k, i < k → k < n → A k (p i) = 0) : IsRank n m A (cnt n) := by
  have key : ∀ i, i ≤ n → ∃ (U : M) (q : Nat → Nat), (∀ t, t < cnt i → ∃ a, a < i ∧ z a = false ∧ U t = A a ∧ q t = p a) ∧
      (∀ t, t < cnt i → U t (q t) ≠ 0 ∧ q t < m ∧ ∀ s, t < s → s < cnt i → U s (q t) = 0) ∧ ∀ a, a < i → Sp (cnt i) m U (A a) := by
    intro i
    induction i with
    | zero => exact fun _ => ⟨A, p, fun t ht => by omega, fun t ht => by omega, fun a ha => by omega⟩
    | succ i ih =>
      intro hi
      obtain ⟨U, q, h1, h2, h3⟩ := ih (by omega)
      have hc := hcnt i (by omega)
      cases hzi : z i with
      | true =>
        simp only [hzi, if_true, Nat.add_zero] at hc
        rw [hc]
        refine ⟨U, q, fun t ht => ?_, h2, fun a ha => ?_⟩
        · obtain ⟨a, ha, hb⟩ := h1 t ht
          exact ⟨a, by omega, hb⟩
        · by_cases hai : a = i
          · subst hai; exact Sp.zero (hz a (by omega) hzi)
          · exact h3 a (by omega)
      | false =>
        simp [hzi] at hc
        rw [hc]
        refine ⟨fun t => if t = cnt i then A i else U t, fun t => if t = cnt i then p i else q t, fun t ht => ?_, fun t ht => ?_, fun a ha => ?_⟩
        · by_cases htc : t = cnt i
          · simp only [htc, if_true]; exact ⟨i, by omega, hzi, rfl, rfl⟩
          · simp only [htc, if_false]
            obtain ⟨a, ha, hb⟩ := h1 t (by omega)
            exact ⟨a, by omega, hb⟩
        · by_cases htc : t = cnt i
          · simp only [htc, if_true]
            obtain ⟨ha, hb, _⟩ := hp i (by omega) hzi
            exact ⟨hb, ha, fun s hs hs' => by omega⟩
          · simp only [htc, if_false]
            obtain ⟨ha, hb, hcc⟩ := h2 t (by omega)
            refine ⟨ha, hb, fun s hs hs' => ?_⟩
            by_cases hsc : s = cnt i
            · simp only [hsc, if_true]
              obtain ⟨a, hai, hza, _, hq⟩ := h1 t (by omega)
              rw [hq]
              exact (hp a (by omega) hza).2.2 i hai (by omega)
            · simp only [hsc, if_false]; exact hcc s hs (by omega)
        · have hU : ∀ t, t < cnt i → Sp (cnt i + 1) m (fun t => if t = cnt i then A i else U t) (U t) := fun t ht => by
            have := Sp.self (n := cnt i + 1) (m := m) (V := fun t => if t = cnt i then A i else U t) (i := t) (by omega)
            simp only [show t ≠ cnt i from by omega, if_false] at this
            exact this
          by_cases hai : a = i
          · subst hai
            have := Sp.self (n := cnt a + 1) (m := m) (V := fun t => if t = cnt a then A a else U t) (i := cnt a) (by omega)
            simp only [if_true] at this
            exact this
          · exact (h3 a (by omega)).trans hU
  obtain ⟨U, q, h1, h2, h3⟩ := key n (Nat.le_refl _)
  refine ⟨U, fun c hc => ?_, fun t ht => ?_, h3⟩
  · have strong : ∀ t, ∀ s, s ≤ t → s < cnt n → c s = 0 := by
      intro t
      induction t with
      | zero =>
        intro s hs hsn
        have hs0 : s = 0 := by omega
        subst hs0
        obtain ⟨ha, hb, hcc⟩ := h2 0 hsn
        have he := hc (q 0) hb
        rw [sm_one hsn (fun u hu hu0 => by rw [hcc u (by omega) hu, gm_zero_right])] at he
        exact (gm_eq_zero.1 he).resolve_right ha
      | succ t ih =>
        intro s hs hsn
        by_cases hst : s ≤ t
        · exact ih s hst hsn
        · have hse : s = t + 1 := by omega
          subst hse
          obtain ⟨ha, hb, hcc⟩ := h2 (t + 1) hsn
          have he := hc (q (t + 1)) hb
          rw [sm_one hsn (fun u hu hu0 => by
            by_cases hut : u ≤ t
            · rw [ih u hut hu, gm_zero_left]
            · rw [hcc u (by omega) hu, gm_zero_right])] at he
          exact (gm_eq_zero.1 he).resolve_right ha
    exact fun i hi => strong i i (Nat.le_refl _) hi
  · obtain ⟨a, ha, _, hb, _⟩ := h1 t ht
    rw [hb]; exact Sp.self ha

/-! ### Row by row: what a matrix and one beside it go through alike -/
/-- Q undoes P. -/
def LI (n : Nat) (Q P : M) : Prop := ∀ i, i < n → ∀ k, k < n → sm n (fun t => gm (Q i t) (P t k)) = unit i k
/-- m is P times A. -/
def Al (n : Nat) (P A m : M) : Prop := ∀ i, i < n → ∀ j, m i j = sm n (fun t => gm (P i t) (A t j))
/-- m and l came of A and B by one list of steps, each of which can be undone. -/
def Rel (n : Nat) (A B m l : M) : Prop := ∃ P Q : M, LI n Q P ∧ Al n P A m ∧ Al n P B l

def addRow (to src : Nat) (c : UInt8) (m : M) : M := fun i j => if i = to then m i j ^^^ gm c (m src j) else m i j
def scaleRow (a : Nat) (c : UInt8) (m : M) : M := fun i j => if i = a then gm c (m i j) else m i j
def swapRow (a b : Nat) (m : M) : M := fun i j => if i = a then m b j else if i = b then m a j else m i j

theorem al_unit (n : Nat) (A : M) : Al n unit A A := fun i hi j => by
  rw [sm_one hi (fun t _ ht => by unfold unit; rw [if_neg (fun e => ht e.symm), gm_zero_left])]
  simp [unit, one_gm]
theorem Rel.start (n : Nat) (A B : M) : Rel n A B A B := by
  refine ⟨unit, unit, fun i hi k _ => ?_, al_unit n A, al_unit n B⟩
  rw [← al_unit n unit i hi k]
theorem Rel.congr {n : Nat} {A B m l m' l' : M} (h : Rel n A B m l) (hm : ∀ i, i < n → ∀ j, m' i j = m i j) (hl : ∀ i, i < n → ∀ j, l' i j = l i j) : Rel n A B m' l' := by
  obtain ⟨P, Q, h1, h2, h3⟩ := h
  exact ⟨P, Q, h1, fun i hi j => (hm i hi j).trans (h2 i hi j), fun i hi j => (hl i hi j).trans (h3 i hi j)⟩

theorem al_add {n to src : Nat} {c : UInt8} {P A m : M} (hs : src < n) (h : Al n P A m) : Al n (addRow to src c P) A (addRow to src c m) := fun i hi j => by
  unfold addRow
  by_cases hit : i = to
  · simp only [hit, if_true]
    rw [← hit, h i hi j, h src hs j, gm_sm, ← sm_xor]
    refine sm_congr fun t _ => ?_
    rw [xor_gm, gm_assoc]
  · simp only [hit, if_false]; exact h i hi j
theorem al_scale {n a : Nat} {c : UInt8} {P A m : M} (h : Al n P A m) : Al n (scaleRow a c P) A (scaleRow a c m) := fun i hi j => by
  unfold scaleRow
  by_cases hia : i = a
  · simp only [hia, if_true]
    rw [← hia, h i hi j, gm_sm]
    exact sm_congr fun t _ => gm_assoc _ _ _
  · simp only [hia, if_false]; exact h i hi j

theorem Rel.add {n : Nat} {A B m l : M} (h : Rel n A B m l) {to src : Nat} (hs : src < n) (ht : to < n) (hne : to ≠ src) (c : UInt8) : Rel n A B (addRow to src c m) (addRow to src c l) := by
  obtain ⟨P, Q, h1, h2, h3⟩ := h
  refine ⟨addRow to src c P, fun i t => if t = src then Q i t ^^^ gm (Q i to) c else Q i t, fun i hi k hk => ?_, al_add hs h2, al_add hs h3⟩
  have e : ∀ t, t < n → gm (if t = src then Q i t ^^^ gm (Q i to) c else Q i t) (addRow to src c P t k) =
      gm (Q i t) (P t k) ^^^ ((if t = src then gm (gm (Q i to) c) (P src k) else 0) ^^^ (if t = to then gm (gm (Q i to) c) (P src k) else 0)) := by
    intro t _
    unfold addRow
    by_cases hts : t = src
    · subst hts
      rw [if_pos rfl, if_pos rfl, if_neg (fun e => hne e.symm), if_neg (fun e => hne e.symm), xor_gm]
      simp
    · by_cases htt : t = to
      · subst htt
        rw [if_neg hts, if_neg hts, if_pos rfl, if_pos rfl, gm_xor, gm_assoc]
        simp
      · rw [if_neg hts, if_neg hts, if_neg htt, if_neg htt]
        simp
  have e2 : sm n (fun t => if t = src then gm (gm (Q i to) c) (P src k) else 0) = gm (gm (Q i to) c) (P src k) := by
    rw [sm_one hs (fun t _ ht' => if_neg ht'), if_pos rfl]
  have e3 : sm n (fun t => if t = to then gm (gm (Q i to) c) (P src k) else 0) = gm (gm (Q i to) c) (P src k) := by
    rw [sm_one ht (fun t _ ht' => if_neg ht'), if_pos rfl]
  rw [sm_congr e, sm_xor, sm_xor, e2, e3, h1 i hi k hk]; simp
theorem Rel.scale {n : Nat} {A B m l : M} (h : Rel n A B m l) {a : Nat} {c : UInt8} (hc : c ≠ 0) : Rel n A B (scaleRow a c m) (scaleRow a c l) := by
  obtain ⟨P, Q, h1, h2, h3⟩ := h
  refine ⟨scaleRow a c P, fun i t => if t = a then gm (Q i t) (gi c) else Q i t, fun i hi k hk => ?_, al_scale h2, al_scale h3⟩
  rw [← h1 i hi k hk]
  refine sm_congr fun t _ => ?_
  unfold scaleRow
  dsimp only
  by_cases hta : t = a
  · rw [if_pos hta, if_pos hta, gm_assoc, ← gm_assoc (Q i t), gi_gm hc, gm_one]
  · rw [if_neg hta, if_neg hta]
theorem swap_is_adds {a b : Nat} (hne : a ≠ b) (m : M) (i j : Nat) : swapRow a b m i j = addRow a b 1 (addRow b a 1 (addRow a b 1 m)) i j := by
  unfold swapRow addRow
  by_cases hia : i = a
  · subst hia
    simp only [hne, Ne.symm hne, one_gm, if_true, if_false]
    have e : m i j ^^^ m b j ^^^ (m b j ^^^ (m i j ^^^ m b j)) = (m i j ^^^ m i j) ^^^ (m b j ^^^ m b j) ^^^ m b j := by ac_rfl
    rw [e]; simp
  · by_cases hib : i = b
    · subst hib
      simp only [Ne.symm hne, one_gm, if_true, if_false]
      have e : m i j ^^^ (m a j ^^^ m i j) = (m i j ^^^ m i j) ^^^ m a j := by ac_rfl
      rw [e]; simp
    · simp [hia, hib]
theorem Rel.swap {n : Nat} {A B m l : M} (h : Rel n A B m l) {a b : Nat} (ha : a < n) (hb : b < n) : Rel n A B (swapRow a b m) (swapRow a b l) := by
  by_cases hne : a = b
  · subst hne
    refine h.congr (fun i _ j => ?_) (fun i _ j => ?_) <;> (unfold swapRow; by_cases hia : i = a <;> simp [hia])
  · exact (((h.add hb ha hne 1).add ha hb (Ne.symm hne) 1).add hb ha hne 1).congr (fun i _ j => swap_is_adds hne m i j) (fun i _ j => swap_is_adds hne l i j)

theorem Al.back {n : Nat} {P Q A m : M} (h1 : LI n Q P) (h2 : Al n P A m) {i : Nat} (hi : i < n) (j : Nat) : A i j = sm n (fun t => gm (Q i t) (m t j)) := by
  have e : sm n (fun t => gm (Q i t) (m t j)) = sm n (fun t => gm (Q i t) (sm n (fun s => gm (P t s) (A s j)))) := sm_congr fun t ht => by rw [h2 t ht j]
  rw [e, comb_comb, sm_congr (fun t ht => by rw [h1 i hi t ht])]
  exact al_unit n A i hi j
/-- What times m is 0 is 0 times A. -/
theorem Rel.kernel {n k : Nat} {A B m l : M} (h : Rel n A B m l) (x : Nat → UInt8) (hx : ∀ i, i < n → sm k (fun j => gm (m i j) (x j)) = 0) : ∀ i, i < n → sm k (fun j => gm (A i j) (x j)) = 0 := by
  obtain ⟨P, Q, h1, h2, _⟩ := h
  intro i hi
  have e : sm k (fun j => gm (A i j) (x j)) = sm k (fun j => gm (sm n (fun t => gm (Q i t) (m t j))) (x j)) := sm_congr fun j _ => by rw [Al.back h1 h2 hi j]
  have e2 : sm k (fun j => gm (sm n (fun t => gm (Q i t) (m t j))) (x j)) = sm n (fun t => gm (Q i t) (sm k (fun j => gm (m t j) (x j)))) := by
    rw [sm_congr (fun j _ => sm_gm _ _ _), sm_swap]
    refine sm_congr fun t _ => ?_
    rw [gm_sm]
    exact sm_congr fun j _ => (gm_assoc _ _ _).symm
  rw [e, e2]
  exact sm_zero fun t ht => by rw [hx t ht, gm_zero_right]
theorem Rel.rows {n c : Nat} {A B m l : M} (h : Rel n A B m l) : (∀ i, i < n → Sp n c A (m i)) ∧ ∀ i, i < n → Sp n c m (A i) := by
  obtain ⟨P, Q, h1, h2, _⟩ := h
  exact ⟨fun i hi => ⟨P i, fun j _ => h2 i hi j⟩, fun i hi => ⟨Q i, fun j _ => Al.back h1 h2 hi j⟩⟩
/-- The product of two matrices, k terms each. -/
def mul (k : Nat) (A B : M) : M := fun i j => sm k (fun t => gm (A i t) (B t j))
theorem mul_assoc (k k' : Nat) (A B C : M) (i j : Nat) : mul k A (mul k' B C) i j = mul k' (mul k A B) C i j := comb_comb k k' (A i) B C j
/-- Where m came to the unit, what came of the unit is the inverse, from both sides. -/
theorem Rel.inverse {n : Nat} {A m l : M} (h : Rel n A unit m l) (hm : ∀ i, i < n → ∀ j, j < n → m i j = unit i j) :
    (∀ i, i < n → ∀ j, j < n → mul n l A i j = unit i j) ∧ ∀ i, i < n → ∀ j, j < n → mul n A l i j = unit i j := by
  obtain ⟨P, Q, h1, h2, h3⟩ := h
  have hl : ∀ i, i < n → ∀ j, j < n → l i j = P i j := fun i hi j hj => by
    rw [h3 i hi j, sm_one hj (fun t _ ht => by unfold unit; rw [if_neg ht, gm_zero_right])]
    simp [unit, gm_one]
  have hA : ∀ i, i < n → ∀ j, j < n → A i j = Q i j := fun i hi j hj => by
    rw [Al.back h1 h2 hi j, sm_one hj (fun t ht ht' => by rw [hm t ht j hj]; unfold unit; rw [if_neg ht', gm_zero_right]), hm j hj j hj]
    simp [unit, gm_one]
  refine ⟨fun i hi j hj => ?_, fun i hi j hj => ?_⟩
  · rw [← hm i hi j hj, h2 i hi j]
    exact sm_congr fun t ht => by rw [hl i hi t ht]
  · rw [← h1 i hi j hj]
    exact sm_congr fun t ht => by rw [hA i hi t ht, hl t ht j hj]
/-- Where m came to the unit, what came of B is the inverse times B: whatever else times A is B. -/
theorem Rel.solves {n k : Nat} {A B m l X : M} (h : Rel n A B m l) (hm : ∀ i, i < n → ∀ j, j < n → m i j = unit i j)
    (hX : ∀ i, i < n → ∀ j, j < k → mul n A X i j = B i j) : ∀ i, i < n → ∀ j, j < k → X i j = l i j := by
  obtain ⟨P, Q, h1, h2, h3⟩ := h
  intro i hi j hj
  have e : l i j = mul n P (mul n A X) i j := by
    rw [h3 i hi j]
    exact sm_congr fun t ht => by rw [hX t ht j hj]
  rw [e, mul_assoc]
  have e2 : mul n (mul n P A) X i j = mul n unit X i j := sm_congr fun t ht => by
    rw [← hm i hi t ht, h2 i hi t]; rfl
  rw [e2]
  exact al_unit n X i hi j

end Go.Proofs.Ytoijjlpkoniipaa.Lin
