/- Joined out of texts of this claim: Gf, Lin, Gauss. Each says what it proves, and its conditions. -/

set_option linter.unusedVariables false
set_option linter.unusedSimpArgs false
section
/- The field of 256 bytes over two numbers with the polynomial 11D, as plain functions on UInt8: its products by logarithms, and that it is a field. No program in sight, no condition. -/
namespace Go.Proofs.Ytoijjlpkoniipaa.Gf

/-- A byte times the generator. -/
def step (x : UInt8) : UInt8 := (x <<< 1) ^^^ (if 128 ≤ x then 29 else 0)
/-- The powers of the generator. -/
def E : Nat → UInt8
  | 0 => 1
  | n + 1 => step (E n)
def logs : List Nat := [0, 0, 1, 25, 2, 50, 26, 198, 3, 223, 51, 238, 27, 104, 199, 75, 4, 100, 224, 14, 52, 141, 239, 129, 28, 193, 105, 248, 200, 8, 76, 113, 5, 138, 101, 47, 225, 36, 15, 33, 53, 147, 142, 218, 240, 18, 130, 69, 29, 181, 194, 125, 106, 39, 249, 185, 201, 154, 9, 120, 77, 228, 114, 166, 6, 191, 139, 98, 102, 221, 48, 253, 226, 152, 37, 179, 16, 145, 34, 136, 54, 208, 148, 206, 143, 150, 219, 189, 241, 210, 19, 92, 131, 56, 70, 64, 30, 66, 182, 163, 195, 72, 126, 110, 107, 58, 40, 84, 250, 133, 186, 61, 202, 94, 155, 159, 10, 21, 121, 43, 78, 212, 229, 172, 115, 243, 167, 87, 7, 112, 192, 247, 140, 128, 99, 13, 103, 74, 222, 237, 49, 197, 254, 24, 227, 165, 153, 119, 38, 184, 180, 124, 17, 68, 146, 217, 35, 32, 137, 46, 55, 63, 209, 91, 149, 188, 207, 205, 144, 135, 151, 178, 220, 252, 190, 97, 242, 86, 211, 171, 20, 42, 93, 158, 132, 60, 57, 83, 71, 109, 65, 162, 31, 45, 67, 216, 183, 123, 164, 118, 196, 23, 73, 236, 127, 12, 111, 246, 108, 161, 59, 82, 41, 157, 85, 170, 251, 96, 134, 177, 187, 204, 62, 90, 203, 89, 95, 176, 156, 169, 160, 81, 11, 245, 22, 235, 122, 117, 44, 215, 79, 174, 213, 233, 230, 231, 173, 232, 116, 214, 244, 234, 168, 80, 88, 175]
/-- Whose power a byte is (0 for 0). -/
def L (a : UInt8) : Nat := logs.getD a.toNat 0

/-! ### What is looked at byte by byte -/
/-- A step by shifts alone. -/
def sh (x : UInt8) : UInt8 := (x <<< 1) ^^^ ((x >>> 7) ^^^ (((x >>> 7) <<< 2) ^^^ (((x >>> 7) <<< 3) ^^^ ((x >>> 7) <<< 4))))
theorem step_sh_all : ∀ a : Fin 256, step (UInt8.ofNat a.val) = sh (UInt8.ofNat a.val) := by decide +kernel
theorem sh_xor (a b : UInt8) : sh (a ^^^ b) = sh a ^^^ sh b := by
  unfold sh
  simp only [UInt8.shiftLeft_xor, UInt8.shiftRight_xor]
  ac_rfl
theorem log_all : ∀ a : Fin 256, logs.getD a.val 0 < 255 ∧ (a.val ≠ 0 → E (logs.getD a.val 0) = UInt8.ofNat a.val) := by decide +kernel
theorem ne_one_all : ∀ n : Fin 255, n.val ≠ 0 → E n.val ≠ 1 := by decide +kernel
theorem E_255 : E 255 = 1 := by decide +kernel
theorem step_zero : step 0 = 0 := by decide +kernel
theorem step_inj_zero : ∀ a : Fin 256, step (UInt8.ofNat a.val) = 0 → UInt8.ofNat a.val = 0 := by decide +kernel

theorem ofNat_toNat (a : UInt8) : UInt8.ofNat a.toNat = a := by simp
theorem step_sh (a : UInt8) : step a = sh a := by
  have h := step_sh_all ⟨a.toNat, a.toNat_lt⟩
  simpa only [ofNat_toNat] using h
theorem step_xor (a b : UInt8) : step (a ^^^ b) = step a ^^^ step b := by rw [step_sh, step_sh, step_sh, sh_xor]
theorem L_lt (a : UInt8) : L a < 255 := (log_all ⟨a.toNat, a.toNat_lt⟩).1
theorem E_L {a : UInt8} (h : a ≠ 0) : E (L a) = a := by
  have hh := (log_all ⟨a.toNat, a.toNat_lt⟩).2 (fun e => h (UInt8.toNat_inj.1 (by simpa using e)))
  rw [ofNat_toNat] at hh; exact hh
theorem step_ne_zero {a : UInt8} (h : a ≠ 0) : step a ≠ 0 := by
  intro e
  have hh := step_inj_zero ⟨a.toNat, a.toNat_lt⟩
  simp only [ofNat_toNat] at hh
  exact h (hh e)
theorem xor_eq_zero {a b : UInt8} (h : a ^^^ b = 0) : a = b := by
  have : (a ^^^ b) ^^^ b = 0 ^^^ b := by rw [h]
  simpa [UInt8.xor_assoc] using this
theorem step_inj {a b : UInt8} (h : step a = step b) : a = b := by
  by_cases hab : a ^^^ b = 0
  · exact xor_eq_zero hab
  · exfalso
    refine step_ne_zero hab ?_
    rw [step_xor, h]; simp

/-! ### Steps, and powers -/
/-- n steps. -/
def st : Nat → UInt8 → UInt8
  | 0, x => x
  | n + 1, x => step (st n x)
theorem st_add (n m : Nat) (x : UInt8) : st (n + m) x = st n (st m x) := by
  induction n with
  | zero => simp [st]
  | succ n ih => rw [Nat.add_right_comm]; simp [st, ih]
theorem E_eq (n : Nat) : E n = st n 1 := by
  induction n with
  | zero => rfl
  | succ n ih => simp [E, st, ih]
theorem st_zero (n : Nat) : st n 0 = 0 := by
  induction n with
  | zero => rfl
  | succ n ih => simp [st, ih, step_zero]
theorem st_xor (n : Nat) (a b : UInt8) : st n (a ^^^ b) = st n a ^^^ st n b := by
  induction n with
  | zero => rfl
  | succ n ih => simp [st, ih, step_xor]
theorem st_inj (n : Nat) {a b : UInt8} (h : st n a = st n b) : a = b := by
  induction n with
  | zero => exact h
  | succ n ih => exact ih (step_inj h)
theorem E_add (n m : Nat) : E (n + m) = st n (E m) := by rw [E_eq, E_eq, st_add]
theorem E_ne_zero (n : Nat) : E n ≠ 0 := by
  induction n with
  | zero => decide
  | succ n ih => exact step_ne_zero ih
theorem E_period (n : Nat) : E (n + 255) = E n := by rw [E_add, E_255, E_eq]
theorem E_mul_period (n k : Nat) : E (n + 255 * k) = E n := by
  induction k with
  | zero => rfl
  | succ k ih => rw [show n + 255 * (k + 1) = n + 255 * k + 255 from by omega, E_period, ih]
theorem E_mod (n : Nat) : E (n % 255) = E n := by
  have := E_mul_period (n % 255) (n / 255)
  rw [Nat.mod_add_div] at this
  exact this.symm
theorem E_inj {n m : Nat} (hn : n < 255) (hm : m < 255) (h : E n = E m) : n = m := by
  have key : ∀ a b : Nat, a ≤ b → b < 255 → E a = E b → a = b := by
    intro a b hab hb he
    by_cases hd : b - a = 0
    · omega
    · exfalso
      refine ne_one_all ⟨b - a, by omega⟩ hd ?_
      have h2 : E b = st a (E (b - a)) := by rw [← E_add]; congr 1; omega
      rw [h2, E_eq] at he
      exact (st_inj a he).symm
  rcases Nat.le_total n m with hle | hle
  · exact key n m hle hm h
  · exact (key m n hle hn h.symm).symm
theorem L_E (n : Nat) : L (E n) = n % 255 :=
  E_inj (L_lt _) (Nat.mod_lt _ (by omega)) (by rw [E_L (E_ne_zero n), E_mod])
theorem L_zero : L 0 = 0 := rfl
theorem L_one : L 1 = 0 := rfl
theorem L_inj {a b : UInt8} (ha : a ≠ 0) (hb : b ≠ 0) (h : L a = L b) : a = b := by rw [← E_L ha, ← E_L hb, h]

/-! ### Products -/
def gm (a b : UInt8) : UInt8 := if a = 0 ∨ b = 0 then 0 else E (L a + L b)
def gi (a : UInt8) : UInt8 := if a = 0 then 0 else E (255 - L a)

theorem gm_zero_left (b : UInt8) : gm 0 b = 0 := by simp [gm]
theorem gm_zero_right (a : UInt8) : gm a 0 = 0 := by simp [gm]
theorem gm_ne {a b : UInt8} (ha : a ≠ 0) (hb : b ≠ 0) : gm a b = E (L a + L b) := by simp [gm, ha, hb]
theorem gm_comm (a b : UInt8) : gm a b = gm b a := by
  by_cases ha : a = 0
  · subst ha; simp [gm]
  · by_cases hb : b = 0
    · subst hb; simp [gm]
    · simp [gm, ha, hb, Nat.add_comm]
theorem gm_ne_zero {a b : UInt8} (ha : a ≠ 0) (hb : b ≠ 0) : gm a b ≠ 0 := by rw [gm_ne ha hb]; exact E_ne_zero _
theorem gm_st (n : Nat) (b : UInt8) : gm (E n) b = st n b := by
  by_cases hb : b = 0
  · subst hb; rw [gm_zero_right, st_zero]
  · rw [gm_ne (E_ne_zero n) hb, L_E, ← E_mod, Nat.mod_add_mod, E_mod, E_add, E_L hb]
theorem gm_assoc (a b c : UInt8) : gm a (gm b c) = gm (gm a b) c := by
  by_cases ha : a = 0
  · subst ha; simp [gm_zero_left]
  · by_cases hb : b = 0
    · subst hb; simp [gm_zero_left, gm_zero_right]
    · rw [gm_ne ha hb, gm_st, st_add, ← E_L ha, gm_st, ← gm_st (L b), E_L hb, E_L ha]
theorem gm_xor (a b c : UInt8) : gm a (b ^^^ c) = gm a b ^^^ gm a c := by
  by_cases ha : a = 0
  · subst ha; simp [gm_zero_left]
  · rw [← E_L ha, gm_st, gm_st, gm_st, st_xor]
theorem xor_gm (a b c : UInt8) : gm (a ^^^ b) c = gm a c ^^^ gm b c := by rw [gm_comm, gm_xor, gm_comm c a, gm_comm c b]
theorem gm_one (a : UInt8) : gm a 1 = a := by
  by_cases ha : a = 0
  · subst ha; rfl
  · rw [gm_ne ha (by decide), L_one, Nat.add_zero, E_L ha]
theorem one_gm (a : UInt8) : gm 1 a = a := by rw [gm_comm, gm_one]
theorem gm_gi {a : UInt8} (ha : a ≠ 0) : gm a (gi a) = 1 := by
  have h : gi a = E (255 - L a) := by simp [gi, ha]
  rw [h, gm_comm, gm_st]
  have h2 : st (255 - L a) (E (L a)) = 1 := by rw [← E_add, show 255 - L a + L a = 255 from by have := L_lt a; omega, E_255]
  rwa [E_L ha] at h2
theorem gi_gm {a : UInt8} (ha : a ≠ 0) : gm (gi a) a = 1 := by rw [gm_comm, gm_gi ha]
theorem gi_zero : gi 0 = 0 := rfl
theorem gi_ne_zero {a : UInt8} (ha : a ≠ 0) : gi a ≠ 0 := by simp [gi, ha, E_ne_zero]
/-- What times a is 1 is the inverse. -/
theorem gi_unique {a b : UInt8} (h : gm a b = 1) : b = gi a := by
  have ha : a ≠ 0 := by rintro rfl; rw [gm_zero_left] at h; exact absurd h (by decide)
  rw [← one_gm b, ← gi_gm ha, ← gm_assoc, h, gm_one]
theorem gm_eq_zero {a b : UInt8} : gm a b = 0 ↔ a = 0 ∨ b = 0 := by
  constructor
  · intro h
    rcases Classical.em (a = 0) with ha | ha
    · exact .inl ha
    · rcases Classical.em (b = 0) with hb | hb
      · exact .inr hb
      · exact absurd h (gm_ne_zero ha hb)
  · rintro (h | h) <;> subst h
    · exact gm_zero_left _
    · exact gm_zero_right _
theorem gm_two (a : UInt8) : gm a 2 = step a := by
  have h : (2 : UInt8) = E 1 := by decide
  rw [gm_comm, h, gm_st]; rfl

end Go.Proofs.Ytoijjlpkoniipaa.Gf
end
section
/- Sums, combinations of rows, independence and rank over the field of bytes: matrices are functions of two numbers. Plain, no program in sight, no condition. -/
namespace Go.Proofs.Ytoijjlpkoniipaa.Lin
open Gf

abbrev M := Nat → Nat → UInt8

/-- The sum of f 0, .., f (n - 1). -/
def sm : Nat → (Nat → UInt8) → UInt8
  | 0, _ => 0
  | n + 1, f => sm n f ^^^ f n

theorem sm_congr {n : Nat} {f g : Nat → UInt8} (h : ∀ i, i < n → f i = g i) : sm n f = sm n g := by
  induction n with
  | zero => rfl
  | succ n ih => simp only [sm]; rw [ih (fun i hi => h i (by omega)), h n (by omega)]
theorem sm_zero {n : Nat} {f : Nat → UInt8} (h : ∀ i, i < n → f i = 0) : sm n f = 0 := by
  induction n with
  | zero => rfl
  | succ n ih => simp only [sm]; rw [ih (fun i hi => h i (by omega)), h n (by omega)]; rfl
theorem sm_xor (n : Nat) (f g : Nat → UInt8) : sm n (fun i => f i ^^^ g i) = sm n f ^^^ sm n g := by
  induction n with
  | zero => simp [sm]
  | succ n ih => simp only [sm]; rw [ih]; ac_rfl
theorem gm_sm (c : UInt8) (n : Nat) (f : Nat → UInt8) : gm c (sm n f) = sm n (fun i => gm c (f i)) := by
  induction n with
  | zero => exact gm_zero_right c
  | succ n ih => simp only [sm]; rw [gm_xor, ih]
theorem sm_gm (c : UInt8) (n : Nat) (f : Nat → UInt8) : gm (sm n f) c = sm n (fun i => gm (f i) c) := by
  rw [gm_comm, gm_sm]; exact sm_congr fun i _ => gm_comm _ _
theorem sm_swap (n m : Nat) (f : Nat → Nat → UInt8) : sm n (fun i => sm m (fun j => f i j)) = sm m (fun j => sm n (fun i => f i j)) := by
  induction n with
  | zero => simp only [sm]; exact (sm_zero fun _ _ => rfl).symm
  | succ n ih => simp only [sm]; rw [ih, sm_xor]
theorem sm_one {n : Nat} {f : Nat → UInt8} {i : Nat} (hi : i < n) (h : ∀ j, j < n → j ≠ i → f j = 0) : sm n f = f i := by
  induction n with
  | zero => omega
  | succ n ih =>
    simp only [sm]
    by_cases hn : i = n
    · subst hn
      rw [sm_zero fun j hj => h j (by omega) (by omega)]; simp
    · rw [ih (by omega) fun j hj => h j (by omega), h n (by omega) (by omega)]; simp
def skip (p i : Nat) : Nat := if i < p then i else i + 1
theorem skip_lt {p i n : Nat} (hi : i < n) : skip p i < n + 1 := by unfold skip; split <;> omega
theorem skip_ne (p i : Nat) : skip p i ≠ p := by unfold skip; split <;> omega
theorem sm_skip {n p : Nat} (hp : p ≤ n) (f : Nat → UInt8) : sm (n + 1) f = f p ^^^ sm n (fun i => f (skip p i)) := by
  induction n with
  | zero =>
    have : p = 0 := by omega
    subst this
    simp [sm]
  | succ n ih =>
    by_cases h : p = n + 1
    · subst h
      have e : sm (n + 1) (fun i => f (skip (n + 1) i)) = sm (n + 1) f := sm_congr fun i hi => by unfold skip; rw [if_pos hi]
      rw [e]; simp only [sm]; ac_rfl
    · have e1 : sm (n + 1 + 1) f = sm (n + 1) f ^^^ f (n + 1) := rfl
      have e2 : sm (n + 1) (fun i => f (skip p i)) = sm n (fun i => f (skip p i)) ^^^ f (n + 1) := by
        simp only [sm]; congr 2; unfold skip; rw [if_neg (by omega)]
      rw [e1, ih (by omega), e2]; ac_rfl

/-! ### More unknowns than equations -/
theorem more_unknowns (s : Nat) : ∀ (r : Nat) (A : M), s < r → ∃ c : Nat → UInt8, (∃ i, i < r ∧ c i ≠ 0) ∧ ∀ k, k < s → sm r (fun i => gm (c i) (A i k)) = 0 := by
  induction s with
  | zero =>
    intro r A h
    exact ⟨fun _ => 1, ⟨0, h, by decide⟩, fun k hk => by omega⟩
  | succ s ih =>
    intro r A h
    by_cases hz : ∃ p, p < r ∧ A p s ≠ 0
    · obtain ⟨p, hp, hne⟩ := hz
      obtain ⟨q, rfl⟩ : ∃ q, r = q + 1 := ⟨r - 1, by omega⟩
      obtain ⟨c, ⟨i0, hi0, hc0⟩, hc⟩ := ih q (fun i k => A (skip p i) k ^^^ gm (gm (A (skip p i) s) (gi (A p s))) (A p k)) (by omega)
      have hback : ∀ i, (if skip p i < p then skip p i else skip p i - 1) = i := by
        intro i
        unfold skip
        by_cases hip : i < p
        · rw [if_pos hip, if_pos hip]
        · rw [if_neg hip, if_neg (by omega)]; rfl
      refine ⟨fun j => if j = p then sm q (fun i => gm (c i) (gm (A (skip p i) s) (gi (A p s)))) else c (if j < p then j else j - 1), ⟨skip p i0, skip_lt hi0, ?_⟩, ?_⟩
      · have h1 : (if skip p i0 = p then sm q (fun i => gm (c i) (gm (A (skip p i) s) (gi (A p s)))) else c (if skip p i0 < p then skip p i0 else skip p i0 - 1)) = c i0 := by
          rw [if_neg (skip_ne p i0), hback]
        exact fun e => hc0 (h1.symm.trans e)
      · intro k hk
        rw [sm_skip (p := p) (by omega)]
        have h1 : ∀ i, (if skip p i = p then sm q (fun i => gm (c i) (gm (A (skip p i) s) (gi (A p s)))) else c (if skip p i < p then skip p i else skip p i - 1)) = c i := by
          intro i
          rw [if_neg (skip_ne p i), hback]
        simp only [h1, if_true]
        have h2 : gm (sm q (fun i => gm (c i) (gm (A (skip p i) s) (gi (A p s))))) (A p k) ^^^ sm q (fun i => gm (c i) (A (skip p i) k)) =
            sm q (fun i => gm (c i) (A (skip p i) k ^^^ gm (gm (A (skip p i) s) (gi (A p s))) (A p k))) := by
          rw [sm_gm, ← sm_xor]
          refine sm_congr fun i _ => ?_
          rw [gm_xor, gm_assoc (c i) (gm _ _), UInt8.xor_comm]
        rw [h2]
        by_cases hks : k = s
        · subst hks
          refine sm_zero fun i _ => ?_
          rw [← gm_assoc (A (skip p i) k), gi_gm hne, gm_one]
          simp [gm_zero_right]
        · exact hc k (by omega)
    · obtain ⟨c, hc0, hc⟩ := ih r A (by omega)
      refine ⟨c, hc0, fun k hk => ?_⟩
      by_cases hks : k = s
      · subst hks
        refine sm_zero fun i hi => ?_
        have : A i k = 0 := Classical.byContradiction fun e => hz ⟨i, hi, e⟩
        rw [this, gm_zero_right]
      · exact hc k (by omega)

/-! ### Combinations, independence, rank -/
/-- v is a combination of the n rows V (in columns 0, .., m - 1). -/
def Sp (n m : Nat) (V : M) (v : Nat → UInt8) : Prop := ∃ c : Nat → UInt8, ∀ j, j < m → v j = sm n (fun i => gm (c i) (V i j))
/-- No row is a combination of others. -/
def Ind (n m : Nat) (V : M) : Prop := ∀ c : Nat → UInt8, (∀ j, j < m → sm n (fun i => gm (c i) (V i j)) = 0) → ∀ i, i < n → c i = 0

theorem coeffs {n m r : Nat} {V U : M} (h : ∀ i, i < r → Sp n m V (U i)) : ∃ C : M, ∀ i, i < r → ∀ j, j < m → U i j = sm n (fun t => gm (C i t) (V t j)) := by
  refine ⟨fun i => if hi : i < r then Classical.choose (h i hi) else fun _ => 0, fun i hi j hj => ?_⟩
  have := Classical.choose_spec (h i hi) j hj
  simp only [hi, dif_pos]
  exact this

theorem comb_comb (r n : Nat) (c : Nat → UInt8) (C V : M) (j : Nat) :
    sm r (fun i => gm (c i) (sm n (fun t => gm (C i t) (V t j)))) = sm n (fun t => gm (sm r (fun i => gm (c i) (C i t))) (V t j)) := by
  have h1 : sm r (fun i => gm (c i) (sm n (fun t => gm (C i t) (V t j)))) = sm r (fun i => sm n (fun t => gm (gm (c i) (C i t)) (V t j))) :=
    sm_congr fun i _ => by rw [gm_sm]; exact sm_congr fun t _ => gm_assoc _ _ _
  rw [h1, sm_swap]
  exact sm_congr fun t _ => (sm_gm _ _ _).symm

theorem Sp.self {n m : Nat} {V : M} {i : Nat} (hi : i < n) : Sp n m V (V i) :=
  ⟨fun t => if t = i then 1 else 0, fun j _ => by
    rw [sm_one hi (fun t _ ht => by simp only [ht, if_false, gm_zero_left])]
    simp only [if_true, one_gm]⟩
theorem Sp.trans {n k m : Nat} {V W : M} {v : Nat → UInt8} (h : Sp n m V v) (hV : ∀ i, i < n → Sp k m W (V i)) : Sp k m W v := by
  obtain ⟨c, hc⟩ := h
  obtain ⟨C, hC⟩ := coeffs hV
  refine ⟨fun t => sm n (fun i => gm (c i) (C i t)), fun j hj => ?_⟩
  rw [hc j hj, ← comb_comb]
  exact sm_congr fun i hi => by rw [hC i hi j hj]
theorem Sp.congr {n m : Nat} {V : M} {v w : Nat → UInt8} (h : Sp n m V v) (he : ∀ j, j < m → w j = v j) : Sp n m V w := by
  obtain ⟨c, hc⟩ := h
  exact ⟨c, fun j hj => (he j hj).trans (hc j hj)⟩
theorem Sp.zero {n m : Nat} {V : M} {v : Nat → UInt8} (he : ∀ j, j < m → v j = 0) : Sp n m V v :=
  ⟨fun _ => 0, fun j hj => by rw [he j hj]; exact (sm_zero fun i _ => gm_zero_left _).symm⟩
theorem Sp.mono {n k m : Nat} {V : M} {v : Nat → UInt8} (h : Sp n m V v) (hk : n ≤ k) : Sp k m V v := h.trans fun _ hi => Sp.self (by omega)

theorem steinitz {r s m : Nat} {U V : M} (hi : Ind r m U) (hs : ∀ i, i < r → Sp s m V (U i)) : r ≤ s := by
  rcases Nat.lt_or_ge s r with hlt | hge
  · exfalso
    obtain ⟨C, hC⟩ := coeffs hs
    obtain ⟨c, ⟨i, hir, hne⟩, hc⟩ := more_unknowns s r C hlt
    refine hne (hi c (fun j hj => ?_) i hir)
    have h1 : sm r (fun i => gm (c i) (U i j)) = sm r (fun i => gm (c i) (sm s (fun t => gm (C i t) (V t j)))) := sm_congr fun i hi => by rw [hC i hi j hj]
    rw [h1, comb_comb]
    exact sm_zero fun t ht => by rw [hc t ht, gm_zero_left]
  · exact hge

/-- The rank of the n rows A is r. -/
def IsRank (n m : Nat) (A : M) (r : Nat) : Prop := ∃ U : M, Ind r m U ∧ (∀ i, i < r → Sp n m A (U i)) ∧ ∀ i, i < n → Sp r m U (A i)

theorem IsRank.le {n m n' r r' : Nat} {A B : M} (h : IsRank n m A r) (k : IsRank n' m B r') (hs : ∀ i, i < n → Sp n' m B (A i)) : r ≤ r' := by
  obtain ⟨U, hi, hU, _⟩ := h
  obtain ⟨V, _, _, hV⟩ := k
  exact steinitz hi fun i hir => ((hU i hir).trans hs).trans hV
theorem IsRank.unique {n m r r' : Nat} {A : M} (h : IsRank n m A r) (k : IsRank n m A r') : r = r' :=
  Nat.le_antisymm (h.le k fun _ hi => Sp.self hi) (k.le h fun _ hi => Sp.self hi)
theorem IsRank.of_rows {n m n' r : Nat} {A B : M} (h : IsRank n m A r) (hab : ∀ i, i < n → Sp n' m B (A i)) (hba : ∀ i, i < n' → Sp n m A (B i)) : IsRank n' m B r := by
  obtain ⟨U, hi, hU, hA⟩ := h
  exact ⟨U, hi, fun i hir => (hU i hir).trans hab, fun i hin => (hba i hin).trans hA⟩
theorem IsRank.le_rows {n m r : Nat} {A : M} (h : IsRank n m A r) : r ≤ n := by
  obtain ⟨U, hi, hU, _⟩ := h
  exact steinitz hi hU
/-- The unit's rows. -/
def unit : M := fun i j => if i = j then 1 else 0
theorem sp_unit (n : Nat) (v : Nat → UInt8) : Sp n n unit v :=
  ⟨v, fun j hj => by rw [sm_one hj (fun t _ ht => by unfold unit; rw [if_neg ht, gm_zero_right])]; simp [unit, gm_one]⟩
theorem ind_unit (n : Nat) : Ind n n unit := fun c hc i hi => by
  have := hc i hi
  rw [sm_one hi (fun t _ ht => by unfold unit; rw [if_neg ht, gm_zero_right])] at this
  simpa [unit, gm_one] using this
theorem IsRank.le_cols {n m r : Nat} {A : M} (h : IsRank n m A r) : r ≤ m := by
  obtain ⟨U, hi, _, _⟩ := h
  exact steinitz hi fun i _ => sp_unit m (U i)
/-- A product's rank is at most the first one's. -/
theorem IsRank.mul_left {n k m r r' : Nat} {A B : M} (h : IsRank n m (fun i j => sm k (fun t => gm (A i t) (B t j))) r) (hA : IsRank n k A r') : r ≤ r' := by
  obtain ⟨U, hi, hU, _⟩ := h
  obtain ⟨V, _, _, hV⟩ := hA
  refine steinitz (V := fun i j => sm k (fun t => gm (V i t) (B t j))) hi fun i hir => (hU i hir).trans fun a han => ?_
  obtain ⟨c, hc⟩ := hV a han
  refine ⟨c, fun j _ => ?_⟩
  rw [comb_comb]
  exact sm_congr fun t ht => by rw [hc t ht]
theorem IsRank.mul_right {n k m r r' : Nat} {A B : M} (h : IsRank n m (fun i j => sm k (fun t => gm (A i t) (B t j))) r) (hB : IsRank k m B r') : r ≤ r' :=
  h.le hB fun i _ => ⟨A i, fun _ _ => rfl⟩

/-! ### Rows in steps: each has a column in which those behind it are 0 -/
/-- Of the n rows A some are 0, each other one has a column p i in which it isn't 0, and each one behind it is. cnt: how many aren't 0. -/
theorem isRank_steps {n m : Nat} {A : M} (p : Nat → Nat) (z : Nat → Bool) (cnt : Nat → Nat) (h0 : cnt 0 = 0) (hcnt : ∀ i, i < n → cnt (i + 1) = cnt i + (if z i then 0 else 1))
    (hz : ∀ i, i < n → z i = true → ∀ j, j < m → A i j = 0)
    (hp : ∀ i, i < n → z i = false → p i < m ∧ A i (p i) ≠ 0 ∧ ∀ k, i < k → k < n → A k (p i) = 0) : IsRank n m A (cnt n) := by
  have key : ∀ i, i ≤ n → ∃ (U : M) (q : Nat → Nat), (∀ t, t < cnt i → ∃ a, a < i ∧ z a = false ∧ U t = A a ∧ q t = p a) ∧
      (∀ t, t < cnt i → U t (q t) ≠ 0 ∧ q t < m ∧ ∀ s, t < s → s < cnt i → U s (q t) = 0) ∧ ∀ a, a < i → Sp (cnt i) m U (A a) := by
    intro i
    induction i with
    | zero => exact fun _ => ⟨A, p, fun t ht => by omega, fun t ht => by omega, fun a ha => by omega⟩
    | succ i ih =>
      intro hi
      obtain ⟨U, q, h1, h2, h3⟩ := ih (by omega)
      have hc := hcnt i (by omega)
      cases hzi : z i with
      | true =>
        simp only [hzi, if_true, Nat.add_zero] at hc
        rw [hc]
        refine ⟨U, q, fun t ht => ?_, h2, fun a ha => ?_⟩
        · obtain ⟨a, ha, hb⟩ := h1 t ht
          exact ⟨a, by omega, hb⟩
        · by_cases hai : a = i
          · subst hai; exact Sp.zero (hz a (by omega) hzi)
          · exact h3 a (by omega)
      | false =>
        simp [hzi] at hc
        rw [hc]
        refine ⟨fun t => if t = cnt i then A i else U t, fun t => if t = cnt i then p i else q t, fun t ht => ?_, fun t ht => ?_, fun a ha => ?_⟩
        · by_cases htc : t = cnt i
          · simp only [htc, if_true]; exact ⟨i, by omega, hzi, rfl, rfl⟩
          · simp only [htc, if_false]
            obtain ⟨a, ha, hb⟩ := h1 t (by omega)
            exact ⟨a, by omega, hb⟩
        · by_cases htc : t = cnt i
          · simp only [htc, if_true]
            obtain ⟨ha, hb, _⟩ := hp i (by omega) hzi
            exact ⟨hb, ha, fun s hs hs' => by omega⟩
          · simp only [htc, if_false]
            obtain ⟨ha, hb, hcc⟩ := h2 t (by omega)
            refine ⟨ha, hb, fun s hs hs' => ?_⟩
            by_cases hsc : s = cnt i
            · simp only [hsc, if_true]
              obtain ⟨a, hai, hza, _, hq⟩ := h1 t (by omega)
              rw [hq]
              exact (hp a (by omega) hza).2.2 i hai (by omega)
            · simp only [hsc, if_false]; exact hcc s hs (by omega)
        · have hU : ∀ t, t < cnt i → Sp (cnt i + 1) m (fun t => if t = cnt i then A i else U t) (U t) := fun t ht => by
            have := Sp.self (n := cnt i + 1) (m := m) (V := fun t => if t = cnt i then A i else U t) (i := t) (by omega)
            simp only [show t ≠ cnt i from by omega, if_false] at this
            exact this
          by_cases hai : a = i
          · subst hai
            have := Sp.self (n := cnt a + 1) (m := m) (V := fun t => if t = cnt a then A a else U t) (i := cnt a) (by omega)
            simp only [if_true] at this
            exact this
          · exact (h3 a (by omega)).trans hU
  obtain ⟨U, q, h1, h2, h3⟩ := key n (Nat.le_refl _)
  refine ⟨U, fun c hc => ?_, fun t ht => ?_, h3⟩
  · have strong : ∀ t, ∀ s, s ≤ t → s < cnt n → c s = 0 := by
      intro t
      induction t with
      | zero =>
        intro s hs hsn
        have hs0 : s = 0 := by omega
        subst hs0
        obtain ⟨ha, hb, hcc⟩ := h2 0 hsn
        have he := hc (q 0) hb
        rw [sm_one hsn (fun u hu hu0 => by rw [hcc u (by omega) hu, gm_zero_right])] at he
        exact (gm_eq_zero.1 he).resolve_right ha
      | succ t ih =>
        intro s hs hsn
        by_cases hst : s ≤ t
        · exact ih s hst hsn
        · have hse : s = t + 1 := by omega
          subst hse
          obtain ⟨ha, hb, hcc⟩ := h2 (t + 1) hsn
          have he := hc (q (t + 1)) hb
          rw [sm_one hsn (fun u hu hu0 => by
            by_cases hut : u ≤ t
            · rw [ih u hut hu, gm_zero_left]
            · rw [hcc u (by omega) hu, gm_zero_right])] at he
          exact (gm_eq_zero.1 he).resolve_right ha
    exact fun i hi => strong i i (Nat.le_refl _) hi
  · obtain ⟨a, ha, _, hb, _⟩ := h1 t ht
    rw [hb]; exact Sp.self ha

/-! ### Row by row: what a matrix and one beside it go through alike -/
/-- Q undoes P. -/
def LI (n : Nat) (Q P : M) : Prop := ∀ i, i < n → ∀ k, k < n → sm n (fun t => gm (Q i t) (P t k)) = unit i k
/-- m is P times A. -/
def Al (n : Nat) (P A m : M) : Prop := ∀ i, i < n → ∀ j, m i j = sm n (fun t => gm (P i t) (A t j))
/-- m and l came of A and B by one list of steps, each of which can be undone. -/
def Rel (n : Nat) (A B m l : M) : Prop := ∃ P Q : M, LI n Q P ∧ Al n P A m ∧ Al n P B l

def addRow (to src : Nat) (c : UInt8) (m : M) : M := fun i j => if i = to then m i j ^^^ gm c (m src j) else m i j
def scaleRow (a : Nat) (c : UInt8) (m : M) : M := fun i j => if i = a then gm c (m i j) else m i j
def swapRow (a b : Nat) (m : M) : M := fun i j => if i = a then m b j else if i = b then m a j else m i j

theorem al_unit (n : Nat) (A : M) : Al n unit A A := fun i hi j => by
  rw [sm_one hi (fun t _ ht => by unfold unit; rw [if_neg (fun e => ht e.symm), gm_zero_left])]
  simp [unit, one_gm]
theorem Rel.start (n : Nat) (A B : M) : Rel n A B A B := by
  refine ⟨unit, unit, fun i hi k _ => ?_, al_unit n A, al_unit n B⟩
  rw [← al_unit n unit i hi k]
theorem Rel.congr {n : Nat} {A B m l m' l' : M} (h : Rel n A B m l) (hm : ∀ i, i < n → ∀ j, m' i j = m i j) (hl : ∀ i, i < n → ∀ j, l' i j = l i j) : Rel n A B m' l' := by
  obtain ⟨P, Q, h1, h2, h3⟩ := h
  exact ⟨P, Q, h1, fun i hi j => (hm i hi j).trans (h2 i hi j), fun i hi j => (hl i hi j).trans (h3 i hi j)⟩

theorem al_add {n to src : Nat} {c : UInt8} {P A m : M} (hs : src < n) (h : Al n P A m) : Al n (addRow to src c P) A (addRow to src c m) := fun i hi j => by
  unfold addRow
  by_cases hit : i = to
  · simp only [hit, if_true]
    rw [← hit, h i hi j, h src hs j, gm_sm, ← sm_xor]
    refine sm_congr fun t _ => ?_
    rw [xor_gm, gm_assoc]
  · simp only [hit, if_false]; exact h i hi j
theorem al_scale {n a : Nat} {c : UInt8} {P A m : M} (h : Al n P A m) : Al n (scaleRow a c P) A (scaleRow a c m) := fun i hi j => by
  unfold scaleRow
  by_cases hia : i = a
  · simp only [hia, if_true]
    rw [← hia, h i hi j, gm_sm]
    exact sm_congr fun t _ => gm_assoc _ _ _
  · simp only [hia, if_false]; exact h i hi j

theorem Rel.add {n : Nat} {A B m l : M} (h : Rel n A B m l) {to src : Nat} (hs : src < n) (ht : to < n) (hne : to ≠ src) (c : UInt8) : Rel n A B (addRow to src c m) (addRow to src c l) := by
  obtain ⟨P, Q, h1, h2, h3⟩ := h
  refine ⟨addRow to src c P, fun i t => if t = src then Q i t ^^^ gm (Q i to) c else Q i t, fun i hi k hk => ?_, al_add hs h2, al_add hs h3⟩
  have e : ∀ t, t < n → gm (if t = src then Q i t ^^^ gm (Q i to) c else Q i t) (addRow to src c P t k) =
      gm (Q i t) (P t k) ^^^ ((if t = src then gm (gm (Q i to) c) (P src k) else 0) ^^^ (if t = to then gm (gm (Q i to) c) (P src k) else 0)) := by
    intro t _
    unfold addRow
    by_cases hts : t = src
    · subst hts
      rw [if_pos rfl, if_pos rfl, if_neg (fun e => hne e.symm), if_neg (fun e => hne e.symm), xor_gm]
      simp
    · by_cases htt : t = to
      · subst htt
        rw [if_neg hts, if_neg hts, if_pos rfl, if_pos rfl, gm_xor, gm_assoc]
        simp
      · rw [if_neg hts, if_neg hts, if_neg htt, if_neg htt]
        simp
  have e2 : sm n (fun t => if t = src then gm (gm (Q i to) c) (P src k) else 0) = gm (gm (Q i to) c) (P src k) := by
    rw [sm_one hs (fun t _ ht' => if_neg ht'), if_pos rfl]
  have e3 : sm n (fun t => if t = to then gm (gm (Q i to) c) (P src k) else 0) = gm (gm (Q i to) c) (P src k) := by
    rw [sm_one ht (fun t _ ht' => if_neg ht'), if_pos rfl]
  rw [sm_congr e, sm_xor, sm_xor, e2, e3, h1 i hi k hk]; simp
theorem Rel.scale {n : Nat} {A B m l : M} (h : Rel n A B m l) {a : Nat} {c : UInt8} (hc : c ≠ 0) : Rel n A B (scaleRow a c m) (scaleRow a c l) := by
  obtain ⟨P, Q, h1, h2, h3⟩ := h
  refine ⟨scaleRow a c P, fun i t => if t = a then gm (Q i t) (gi c) else Q i t, fun i hi k hk => ?_, al_scale h2, al_scale h3⟩
  rw [← h1 i hi k hk]
  refine sm_congr fun t _ => ?_
  unfold scaleRow
  dsimp only
  by_cases hta : t = a
  · rw [if_pos hta, if_pos hta, gm_assoc, ← gm_assoc (Q i t), gi_gm hc, gm_one]
  · rw [if_neg hta, if_neg hta]
theorem swap_is_adds {a b : Nat} (hne : a ≠ b) (m : M) (i j : Nat) : swapRow a b m i j = addRow a b 1 (addRow b a 1 (addRow a b 1 m)) i j := by
  unfold swapRow addRow
  by_cases hia : i = a
  · subst hia
    simp only [hne, Ne.symm hne, one_gm, if_true, if_false]
    have e : m i j ^^^ m b j ^^^ (m b j ^^^ (m i j ^^^ m b j)) = (m i j ^^^ m i j) ^^^ (m b j ^^^ m b j) ^^^ m b j := by ac_rfl
    rw [e]; simp
  · by_cases hib : i = b
    · subst hib
      simp only [Ne.symm hne, one_gm, if_true, if_false]
      have e : m i j ^^^ (m a j ^^^ m i j) = (m i j ^^^ m i j) ^^^ m a j := by ac_rfl
      rw [e]; simp
    · simp [hia, hib]
theorem Rel.swap {n : Nat} {A B m l : M} (h : Rel n A B m l) {a b : Nat} (ha : a < n) (hb : b < n) : Rel n A B (swapRow a b m) (swapRow a b l) := by
  by_cases hne : a = b
  · subst hne
    refine h.congr (fun i _ j => ?_) (fun i _ j => ?_) <;> (unfold swapRow; by_cases hia : i = a <;> simp [hia])
  · exact (((h.add hb ha hne 1).add ha hb (Ne.symm hne) 1).add hb ha hne 1).congr (fun i _ j => swap_is_adds hne m i j) (fun i _ j => swap_is_adds hne l i j)

theorem Al.back {n : Nat} {P Q A m : M} (h1 : LI n Q P) (h2 : Al n P A m) {i : Nat} (hi : i < n) (j : Nat) : A i j = sm n (fun t => gm (Q i t) (m t j)) := by
  have e : sm n (fun t => gm (Q i t) (m t j)) = sm n (fun t => gm (Q i t) (sm n (fun s => gm (P t s) (A s j)))) := sm_congr fun t ht => by rw [h2 t ht j]
  rw [e, comb_comb, sm_congr (fun t ht => by rw [h1 i hi t ht])]
  exact al_unit n A i hi j
/-- What times m is 0 is 0 times A. -/
theorem Rel.kernel {n k : Nat} {A B m l : M} (h : Rel n A B m l) (x : Nat → UInt8) (hx : ∀ i, i < n → sm k (fun j => gm (m i j) (x j)) = 0) : ∀ i, i < n → sm k (fun j => gm (A i j) (x j)) = 0 := by
  obtain ⟨P, Q, h1, h2, _⟩ := h
  intro i hi
  have e : sm k (fun j => gm (A i j) (x j)) = sm k (fun j => gm (sm n (fun t => gm (Q i t) (m t j))) (x j)) := sm_congr fun j _ => by rw [Al.back h1 h2 hi j]
  have e2 : sm k (fun j => gm (sm n (fun t => gm (Q i t) (m t j))) (x j)) = sm n (fun t => gm (Q i t) (sm k (fun j => gm (m t j) (x j)))) := by
    rw [sm_congr (fun j _ => sm_gm _ _ _), sm_swap]
    refine sm_congr fun t _ => ?_
    rw [gm_sm]
    exact sm_congr fun j _ => (gm_assoc _ _ _).symm
  rw [e, e2]
  exact sm_zero fun t ht => by rw [hx t ht, gm_zero_right]
theorem Rel.rows {n c : Nat} {A B m l : M} (h : Rel n A B m l) : (∀ i, i < n → Sp n c A (m i)) ∧ ∀ i, i < n → Sp n c m (A i) := by
  obtain ⟨P, Q, h1, h2, _⟩ := h
  exact ⟨fun i hi => ⟨P i, fun j _ => h2 i hi j⟩, fun i hi => ⟨Q i, fun j _ => Al.back h1 h2 hi j⟩⟩
/-- The product of two matrices, k terms each. -/
def mul (k : Nat) (A B : M) : M := fun i j => sm k (fun t => gm (A i t) (B t j))
theorem mul_assoc (k k' : Nat) (A B C : M) (i j : Nat) : mul k A (mul k' B C) i j = mul k' (mul k A B) C i j := comb_comb k k' (A i) B C j
/-- Where m came to the unit, what came of the unit is the inverse, from both sides. -/
theorem Rel.inverse {n : Nat} {A m l : M} (h : Rel n A unit m l) (hm : ∀ i, i < n → ∀ j, j < n → m i j = unit i j) :
    (∀ i, i < n → ∀ j, j < n → mul n l A i j = unit i j) ∧ ∀ i, i < n → ∀ j, j < n → mul n A l i j = unit i j := by
  obtain ⟨P, Q, h1, h2, h3⟩ := h
  have hl : ∀ i, i < n → ∀ j, j < n → l i j = P i j := fun i hi j hj => by
    rw [h3 i hi j, sm_one hj (fun t _ ht => by unfold unit; rw [if_neg ht, gm_zero_right])]
    simp [unit, gm_one]
  have hA : ∀ i, i < n → ∀ j, j < n → A i j = Q i j := fun i hi j hj => by
    rw [Al.back h1 h2 hi j, sm_one hj (fun t ht ht' => by rw [hm t ht j hj]; unfold unit; rw [if_neg ht', gm_zero_right]), hm j hj j hj]
    simp [unit, gm_one]
  refine ⟨fun i hi j hj => ?_, fun i hi j hj => ?_⟩
  · rw [← hm i hi j hj, h2 i hi j]
    exact sm_congr fun t ht => by rw [hl i hi t ht]
  · rw [← h1 i hi j hj]
    exact sm_congr fun t ht => by rw [hA i hi t ht, hl t ht j hj]
/-- Where m came to the unit, what came of B is the inverse times B: whatever else times A is B. -/
theorem Rel.solves {n k : Nat} {A B m l X : M} (h : Rel n A B m l) (hm : ∀ i, i < n → ∀ j, j < n → m i j = unit i j)
    (hX : ∀ i, i < n → ∀ j, j < k → mul n A X i j = B i j) : ∀ i, i < n → ∀ j, j < k → X i j = l i j := by
  obtain ⟨P, Q, h1, h2, h3⟩ := h
  intro i hi j hj
  have e : l i j = mul n P (mul n A X) i j := by
    rw [h3 i hi j]
    exact sm_congr fun t ht => by rw [hX t ht j hj]
  rw [e, mul_assoc]
  have e2 : mul n (mul n P A) X i j = mul n unit X i j := sm_congr fun t ht => by
    rw [← hm i hi t ht, h2 i hi t]; rfl
  rw [e2]
  exact al_unit n X i hi j

end Go.Proofs.Ytoijjlpkoniipaa.Lin
end
section
/- Clearing a matrix column by column, what it gives and where it fails; the kernel of a Cauchy matrix. Plain, no program in sight, no condition. -/
namespace Go.Proofs.Ytoijjlpkoniipaa.Lin
open Gf

/-! ### One column cleared -/
/-- Behind the exchange and the multiple. -/
def pre (row at_ col : Nat) (m l : M) : M := scaleRow row (gi (m at_ col)) (swapRow row at_ l)
/-- The first i rows (but that one) have a multiple of that row added: w tells the multiples. -/
def part (row i : Nat) (w : Nat → UInt8) (m : M) : M := fun a j => if a < i ∧ a ≠ row then m a j ^^^ gm (w a) (m row j) else m a j
/-- All of it: m decides, l goes along. -/
def clr (n row at_ col : Nat) (m l : M) : M := part row n (fun a => pre row at_ col m m a col) (pre row at_ col m l)

theorem part_zero (row : Nat) (w : Nat → UInt8) (m : M) : part row 0 w m = m := by funext a j; unfold part; simp
theorem part_row (row i : Nat) (w : Nat → UInt8) (m : M) (j : Nat) : part row i w m row j = m row j := by unfold part; simp
theorem part_from (row i : Nat) (w : Nat → UInt8) (m : M) {a : Nat} (h : i ≤ a) (j : Nat) : part row i w m a j = m a j := by unfold part; rw [if_neg (by omega)]
theorem part_succ_row (row : Nat) (w : Nat → UInt8) (m : M) : part row (row + 1) w m = part row row w m := by
  funext a j; unfold part
  by_cases h : a < row
  · rw [if_pos (by omega), if_pos (by omega)]
  · rw [if_neg (by omega), if_neg (by omega)]
theorem part_succ {row i : Nat} (hi : i ≠ row) (w : Nat → UInt8) (m : M) : part row (i + 1) w m = addRow i row (w i) (part row i w m) := by
  funext a j
  unfold addRow
  by_cases h : a = i
  · subst h
    rw [if_pos rfl, part_from row a w m (Nat.le_refl _), part_row]
    unfold part
    rw [if_pos ⟨by omega, hi⟩]
  · rw [if_neg h]
    unfold part
    by_cases h2 : a < i ∧ a ≠ row
    · rw [if_pos h2, if_pos ⟨by omega, h2.2⟩]
    · rw [if_neg h2, if_neg (by omega)]

theorem Rel.part {n row : Nat} {A B m l : M} (hr : row < n) (w : Nat → UInt8) (h : Rel n A B m l) : ∀ i, i ≤ n → Rel n A B (Lin.part row i w m) (Lin.part row i w l) := by
  intro i
  induction i with
  | zero => intro _; rw [part_zero, part_zero]; exact h
  | succ i ih =>
    intro hi
    by_cases hir : i = row
    · subst hir
      rw [part_succ_row, part_succ_row]
      exact ih (by omega)
    · rw [part_succ hir, part_succ hir]
      exact (ih (by omega)).add hr (by omega) hir _

theorem Rel.clr {n row at_ col : Nat} {A B m l : M} (h : Rel n A B m l) (hr : row < n) (ha : at_ < n) (hne : m at_ col ≠ 0) : Rel n A B (Lin.clr n row at_ col m m) (Lin.clr n row at_ col m l) :=
  ((h.swap hr ha).scale (gi_ne_zero hne)).part hr _ n (Nat.le_refl _)

/-- Column p t is the unit's t-th, for t < r. -/
def Cols (n r : Nat) (p : Nat → Nat) (m : M) : Prop := ∀ t, t < r → ∀ i, i < n → m i (p t) = unit i t

theorem pre_row (row at_ col : Nat) (m l : M) (j : Nat) : pre row at_ col m l row j = gm (gi (m at_ col)) (l at_ j) := by unfold pre scaleRow swapRow; simp
theorem pre_at (row at_ col : Nat) (m l : M) (j : Nat) (h : at_ ≠ row) : pre row at_ col m l at_ j = l row j := by unfold pre scaleRow swapRow; simp [h]
theorem pre_other (row at_ col : Nat) (m l : M) (i j : Nat) (h : i ≠ row) (h' : i ≠ at_) : pre row at_ col m l i j = l i j := by unfold pre scaleRow swapRow; simp [h, h']

theorem clr_row (n row at_ col : Nat) (m l : M) (j : Nat) : Lin.clr n row at_ col m l row j = gm (gi (m at_ col)) (l at_ j) := by unfold Lin.clr; rw [part_row, pre_row]
theorem clr_other {n row at_ col i : Nat} (m l : M) (j : Nat) (hi : i < n) (h : i ≠ row) :
    Lin.clr n row at_ col m l i j = pre row at_ col m l i j ^^^ gm (pre row at_ col m m i col) (gm (gi (m at_ col)) (l at_ j)) := by
  unfold Lin.clr; unfold Lin.part; rw [if_pos ⟨hi, h⟩, pre_row]

theorem clr_cols {n row at_ col : Nat} {p : Nat → Nat} {m : M} (h : Cols n row p m) (hle : row ≤ at_) (ha : at_ < n) (hne : m at_ col ≠ 0) (hp : p row = col) :
    Cols n (row + 1) p (Lin.clr n row at_ col m m) := by
  intro t ht i hi
  have hunit : ∀ t, t < row → m at_ (p t) = 0 := fun t ht => by rw [h t ht at_ ha]; unfold unit; rw [if_neg (by omega)]
  by_cases hir : i = row
  · subst hir
    rw [clr_row]
    by_cases htr : t = i
    · subst htr; rw [hp, gi_gm hne]; simp [unit]
    · rw [hunit t (by omega), gm_zero_right]; unfold unit; rw [if_neg (by omega)]
  · rw [clr_other m m (p t) hi hir]
    by_cases htr : t = row
    · subst htr
      rw [hp, gi_gm hne, gm_one, UInt8.xor_self]; unfold unit; rw [if_neg hir]
    · rw [hunit t (by omega), gm_zero_right, gm_zero_right, UInt8.xor_zero]
      by_cases hia : i = at_
      · subst hia
        rw [pre_at _ _ _ _ _ _ hir, h t (by omega) row (by omega)]
        unfold unit; rw [if_neg (by omega), if_neg (by omega)]
      · rw [pre_other _ _ _ _ _ _ _ hir hia, h t (by omega) i hi]

/-- Columns ahead of col are 0 in the rows from r on. -/
def Low (n r col : Nat) (m : M) : Prop := ∀ i, r ≤ i → i < n → ∀ j, j < col → m i j = 0

theorem clr_low {n row at_ col : Nat} {m : M} (h : Low n row col m) (hr : row < n) (hle : row ≤ at_) (ha : at_ < n) (hne : m at_ col ≠ 0) : Low n (row + 1) (col + 1) (Lin.clr n row at_ col m m) := by
  intro i hri hi j hj
  have hir : i ≠ row := by omega
  rw [clr_other m m j hi hir]
  by_cases hjc : j = col
  · subst hjc
    rw [gi_gm hne, gm_one, UInt8.xor_self]
  · rw [h at_ hle ha j (by omega), gm_zero_right, gm_zero_right, UInt8.xor_zero]
    by_cases hia : i = at_
    · subst hia
      rw [pre_at _ _ _ _ _ _ hir]; exact h row (Nat.le_refl _) hr j (by omega)
    · rw [pre_other _ _ _ _ _ _ _ hir hia]; exact h i (by omega) hi j (by omega)

/-! ### Where a column can't be cleared -/
/-- A vector that isn't 0 and that m takes to 0. -/
theorem stuck_kernel {n i : Nat} {m : M} (hi : i < n) (h : Cols n i id m) (h0 : ∀ a, i ≤ a → a < n → m a i = 0) :
    ∃ x : Nat → UInt8, x i ≠ 0 ∧ ∀ a, a < n → sm n (fun j => gm (m a j) (x j)) = 0 := by
  refine ⟨fun j => if j < i then m j i else if j = i then 1 else 0, by simp, fun a ha => ?_⟩
  have e : ∀ k, k ≤ n → i < k → sm k (fun j => gm (m a j) (if j < i then m j i else if j = i then 1 else 0)) = sm i (fun j => gm (m a j) (m j i)) ^^^ m a i := by
    intro k
    induction k with
    | zero => intro _ h; omega
    | succ k ih =>
      intro hk hik
      simp only [sm]
      by_cases hki : k = i
      · subst hki
        simp only [Nat.lt_irrefl, if_false, if_true, gm_one]
        congr 1
        exact sm_congr fun j hj => by rw [if_pos hj]
      · rw [ih (by omega) (by omega), if_neg (by omega), if_neg hki, gm_zero_right, UInt8.xor_zero]
  rw [e n (Nat.le_refl _) hi]
  have h : ∀ t, t < i → ∀ a, a < n → m a t = unit a t := h
  by_cases hai : a < i
  · rw [sm_one hai (fun j hj hja => by rw [h j hj a ha]; unfold unit; rw [if_neg (by omega), gm_zero_left]), h a hai a ha]
    simp only [unit, if_true, one_gm, UInt8.xor_self]
  · rw [h0 a (by omega) ha, sm_zero (fun j hj => by rw [h j hj a ha]; unfold unit; rw [if_neg (by omega), gm_zero_left])]
    rfl

theorem Ind.le {r k : Nat} {U : M} (h : Ind r k U) : r ≤ k := steinitz h fun i _ => sp_unit k (U i)
theorem rank_lt {n k r i : Nat} {A : M} (h : IsRank n k A r) {x : Nat → UInt8} (hi : i < k) (hx : x i ≠ 0) (h0 : ∀ a, a < n → sm k (fun j => gm (A a j) (x j)) = 0) : r < k := by
  obtain ⟨U, hU, hsp, _⟩ := h
  obtain ⟨q, rfl⟩ : ∃ q, k = q + 1 := ⟨k - 1, by omega⟩
  have hUx : ∀ a, a < r → sm (q + 1) (fun j => gm (U a j) (x j)) = 0 := by
    intro a ha
    obtain ⟨c, hc⟩ := hsp a ha
    have e : sm (q + 1) (fun j => gm (U a j) (x j)) = sm (q + 1) (fun j => gm (sm n (fun t => gm (c t) (A t j))) (x j)) := sm_congr fun j hj => by rw [hc j hj]
    have e2 : sm (q + 1) (fun j => gm (sm n (fun t => gm (c t) (A t j))) (x j)) = sm n (fun t => gm (c t) (sm (q + 1) (fun j => gm (A t j) (x j)))) :=
      (comb_comb n (q + 1) c (fun t j => A t j) (fun j _ => x j) 0).symm
    rw [e, e2]
    exact sm_zero fun t ht => by rw [h0 t ht, gm_zero_right]
  have hI : Ind r q (fun a j => U a (skip i j)) := by
    intro c hc a ha
    refine hU c (fun j hj => ?_) a ha
    have hsk : ∀ j, j < q + 1 → j ≠ i → sm r (fun a => gm (c a) (U a j)) = 0 := fun j hj hji => by
      rcases Nat.lt_or_ge j i with hlt | hge
      · have := hc j (by omega)
        simp only [skip, if_pos hlt] at this
        exact this
      · have := hc (j - 1) (by omega)
        simp only [skip] at this
        rw [if_neg (by omega), show j - 1 + 1 = j by omega] at this
        exact this
    by_cases hji : j = i
    · subst hji
      have e3 : sm (q + 1) (fun t => gm (sm r (fun a => gm (c a) (U a t))) (x t)) = 0 := by
        have e4 : sm (q + 1) (fun t => gm (sm r (fun a => gm (c a) (U a t))) (x t)) = sm r (fun a => gm (c a) (sm (q + 1) (fun t => gm (U a t) (x t)))) :=
          (comb_comb r (q + 1) c (fun a t => U a t) (fun t _ => x t) 0).symm
        rw [e4]
        exact sm_zero fun a ha => by rw [hUx a ha, gm_zero_right]
      rw [sm_one hj (fun t ht htj => by rw [hsk t ht htj, gm_zero_left])] at e3
      rcases gm_eq_zero.1 e3 with e | e
      · exact e
      · exact absurd e hx
    · exact hsk j hj hji
  have := hI.le
  omega

/-! ### All columns cleared: how many rows aren't sums of others -/
theorem Cols.ind {n r k : Nat} {p : Nat → Nat} {m : M} (h : Cols n r p m) (hr : r ≤ n) (hp : ∀ t, t < r → p t < k) : Ind r k m := by
  intro c hc t ht
  have := hc (p t) (hp t ht)
  rw [sm_one ht (fun i hi hit => by rw [h t ht i (by omega)]; unfold unit; rw [if_neg hit, gm_zero_right]), h t ht t (by omega)] at this
  simpa [unit, gm_one] using this
theorem rank_done {n r k : Nat} {p : Nat → Nat} {m : M} (h : Cols n r p m) (hr : r ≤ n) (hp : ∀ t, t < r → p t < k) (hl : Low n r k m ∨ r = n) : IsRank n k m r :=
  ⟨m, h.ind hr hp, fun i hi => Sp.self (by omega), fun i hi => by
    by_cases hir : i < r
    · exact Sp.self hir
    · rcases hl with hl | hl
      · exact Sp.zero (hl i (by omega) hi)
      · omega⟩
theorem Cols.congr {n r : Nat} {p q : Nat → Nat} {m : M} (h : Cols n r p m) (hq : ∀ t, t < r → q t = p t) : Cols n r q m := fun t ht i hi => by rw [hq t ht]; exact h t ht i hi
/-- A matrix with an inverse has no row that is a sum of others. -/
theorem rank_unit (n : Nat) : IsRank n n unit n := ⟨unit, ind_unit n, fun _ hi => Sp.self hi, fun _ hi => Sp.self hi⟩
theorem inverse_rank {n r : Nat} {A B : M} (h : IsRank n n A r) (hu : ∀ i, i < n → ∀ j, j < n → mul n B A i j = unit i j) : r = n := by
  have h1 : IsRank n n (fun i j => sm n (fun t => gm (B i t) (A t j))) n := by
    refine (rank_unit n).of_rows (fun i hi => ?_) (fun i hi => ?_)
    · exact (Sp.self (V := fun i j => sm n (fun t => gm (B i t) (A t j))) hi).congr (fun j hj => (hu i hi j hj).symm)
    · exact (Sp.self (V := unit) hi).congr (fun j hj => hu i hi j hj)
  have := h1.mul_right h
  have := h.le_rows
  omega
/-! ### Cauchy -/
theorem gi_sum {u v : UInt8} (hu : u ≠ 0) (hv : v ≠ 0) : gi u ^^^ gi v = gm (u ^^^ v) (gm (gi u) (gi v)) := by
  rw [gm_comm (u ^^^ v), gm_xor, gm_comm (gm (gi u) (gi v)) u, gm_assoc, gm_gi hu, gm_comm (gm (gi u) (gi v)) v, gm_comm (gi u) (gi v), gm_assoc, gm_gi hv, gm_comm 1, gm_one, gm_comm 1, gm_one, UInt8.xor_comm]
theorem xor_ne {a b : UInt8} (h : a ≠ b) : a ^^^ b ≠ 0 := fun e => h (xor_eq_zero e)
theorem cauchy_kernel : ∀ (k : Nat) (a b x : Nat → UInt8), (∀ i j, i < k → j < k → i ≠ j → a i ≠ a j) → (∀ i j, i < k → j < k → i ≠ j → b i ≠ b j) → (∀ i j, i < k → j < k → a i ≠ b j) →
    (∀ i, i < k → sm k (fun j => gm (gi (a i ^^^ b j)) (x j)) = 0) → ∀ j, j < k → x j = 0
  | 0, _, _, _, _, _, _, _, j, hj => by omega
  | k + 1, a, b, x, ha, hb, hab, h, j, hj => by
    have hT : ∀ i, i < k + 1 → sm k (fun j => gm (gi (a i ^^^ b j)) (gm (b j ^^^ b k) (x j))) = sm (k + 1) x := by
      intro i hi
      have e1 : gm (a i ^^^ b k) (sm (k + 1) (fun j => gm (gi (a i ^^^ b j)) (x j))) = sm (k + 1) (fun j => x j ^^^ gm (gi (a i ^^^ b j)) (gm (b j ^^^ b k) (x j))) := by
        rw [gm_sm]
        refine sm_congr fun j hj => ?_
        have hne := xor_ne (hab i j hi hj)
        have e2 : a i ^^^ b k = (a i ^^^ b j) ^^^ (b j ^^^ b k) := by
          rw [UInt8.xor_assoc, ← UInt8.xor_assoc (b j), UInt8.xor_self, UInt8.zero_xor]
        have e3 : gm (a i ^^^ b k) (gi (a i ^^^ b j)) = 1 ^^^ gm (gi (a i ^^^ b j)) (b j ^^^ b k) := by
          rw [e2, gm_comm, gm_xor, gm_comm _ (a i ^^^ b j), gm_gi hne]
        rw [gm_assoc, e3, gm_comm, gm_xor, gm_one, gm_comm (x j) (gm _ _), ← gm_assoc]
      rw [h i hi, gm_zero_right, sm_xor] at e1
      have e4 : sm (k + 1) (fun j => gm (gi (a i ^^^ b j)) (gm (b j ^^^ b k) (x j))) = sm k (fun j => gm (gi (a i ^^^ b j)) (gm (b j ^^^ b k) (x j))) := by
        show sm k _ ^^^ gm (gi (a i ^^^ b k)) (gm (b k ^^^ b k) (x k)) = _
        rw [UInt8.xor_self, gm_zero_left, gm_zero_right, UInt8.xor_zero]
      rw [e4] at e1
      exact (xor_eq_zero e1.symm).symm
    have hx' : ∀ j, j < k → gm (gi (a k ^^^ b j)) (gm (b j ^^^ b k) (x j)) = 0 := by
      refine cauchy_kernel k a b _ (fun i j hi hj => ha i j (by omega) (by omega)) (fun i j hi hj => hb i j (by omega) (by omega)) (fun i j hi hj => hab i j (by omega) (by omega)) (fun i hi => ?_)
      have e5 : sm k (fun j => gm (gi (a i ^^^ b j)) (gm (b j ^^^ b k) (x j))) ^^^ sm k (fun j => gm (gi (a k ^^^ b j)) (gm (b j ^^^ b k) (x j))) = 0 := by
        rw [hT i (by omega), hT k (by omega), UInt8.xor_self]
      rw [← sm_xor] at e5
      have e6 : sm k (fun j => gm (gi (a i ^^^ b j)) (gm (b j ^^^ b k) (x j)) ^^^ gm (gi (a k ^^^ b j)) (gm (b j ^^^ b k) (x j))) = gm (a i ^^^ a k) (sm k (fun j => gm (gi (a i ^^^ b j)) (gm (gi (a k ^^^ b j)) (gm (b j ^^^ b k) (x j))))) := by
        rw [gm_sm]
        refine sm_congr fun j hj => ?_
        have hu := xor_ne (hab i j (by omega) (by omega))
        have hv := xor_ne (hab k j (by omega) (by omega))
        have huv : (a i ^^^ b j) ^^^ (a k ^^^ b j) = a i ^^^ a k := by
          rw [UInt8.xor_comm (a k), UInt8.xor_assoc, ← UInt8.xor_assoc (b j) (b j), UInt8.xor_self, UInt8.zero_xor]
        rw [gm_comm (gi _), gm_comm (gi _), ← gm_xor, gi_sum hu hv, huv, gm_comm, ← gm_assoc, ← gm_assoc, gm_comm (gi (a k ^^^ b j))]
      rw [e6] at e5
      rcases gm_eq_zero.1 e5 with e | e
      · exact absurd (xor_eq_zero e) (ha i k (by omega) (by omega) (by omega))
      · exact e
    have hlow : ∀ j, j < k → x j = 0 := fun j hj => by
      rcases gm_eq_zero.1 (hx' j hj) with e | e
      · exact absurd e (gi_ne_zero (xor_ne (hab k j (by omega) (by omega))))
      · rcases gm_eq_zero.1 e with e | e
        · exact absurd (xor_eq_zero e) (hb j k (by omega) (by omega) (by omega))
        · exact e
    by_cases hjk : j < k
    · exact hlow j hjk
    · obtain rfl : j = k := by omega
      have := h j (by omega)
      rw [sm_one (i := j) (by omega) (fun t ht htj => by rw [hlow t (by omega), gm_zero_right])] at this
      rcases gm_eq_zero.1 this with e | e
      · exact absurd e (gi_ne_zero (xor_ne (hab j j (by omega) (by omega))))
      · exact e

end Go.Proofs.Ytoijjlpkoniipaa.Lin
end
