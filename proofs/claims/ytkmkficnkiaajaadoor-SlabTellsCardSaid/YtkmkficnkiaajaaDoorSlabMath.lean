/- SLAB: what taking and dropping make of a word: the plain laws. -/
import Derived.Test.YtkmkficnkiaajaaDoorSlabFns
namespace Go.Proofs.YtkmkficnkiaajaaDoor

theorem tb_low {n i : Nat} (h : i < 16) : (n % 65536).testBit i = n.testBit i := by
  rw [show (65536 : Nat) = 2 ^ 16 from rfl, Nat.testBit_mod_two_pow]; simp [h]
theorem tb_div (n i : Nat) : (n / 65536).testBit i = n.testBit (i + 16) := by
  rw [show (65536 : Nat) = 2 ^ 16 from rfl, Nat.testBit_div_two_pow]
theorem word_ext {a b : Nat} (h : a / 65536 = b / 65536) (h2 : ∀ i, i < 16 → a.testBit i = b.testBit i) : a = b := by
  apply bits_eq
  intro i
  by_cases hi : i < 16
  · exact h2 i hi
  · have e1 := tb_div a (i - 16)
    have e2 := tb_div b (i - 16)
    rw [show i - 16 + 16 = i from by omega] at e1 e2
    rw [← e1, ← e2, h]
theorem low_ne {n : Nat} : 0 < n % 65536 ↔ ∃ i, i < 16 ∧ n.testBit i = true := by
  constructor
  · intro h
    obtain ⟨i, hi⟩ := Nat.exists_testBit_of_ne_zero (show n % 65536 ≠ 0 by omega)
    have hi16 : i < 16 := by
      rcases Nat.lt_or_ge i 16 with h' | h'
      · exact h'
      · rw [Nat.testBit_lt_two_pow (Nat.lt_of_lt_of_le (show n % 65536 < 2 ^ 16 by have : (2 : Nat) ^ 16 = 65536 := rfl; omega) (Nat.pow_le_pow_right (by omega) h'))] at hi
        simp at hi
    exact ⟨i, hi16, by rw [← tb_low hi16]; exact hi⟩
  · rintro ⟨i, hi, hb⟩
    rw [← tb_low hi] at hb
    rcases Nat.eq_zero_or_pos (n % 65536) with h | h
    · rw [h] at hb; simp at hb
    · exact h
theorem low_lt16 {n : Nat} : n % 65536 < 16 ↔ ∀ i, 4 ≤ i → i < 16 → n.testBit i = false := by
  constructor
  · intro h i h1 h2
    rw [← tb_low h2]
    exact Nat.testBit_lt_two_pow (Nat.lt_of_lt_of_le h (by have : (16 : Nat) = 2 ^ 4 := rfl; rw [this]; exact Nat.pow_le_pow_right (by omega) h1))
  · intro h
    have : n % 65536 < 2 ^ 4 := by
      refine Nat.lt_pow_two_of_testBit _ fun i hi => ?_
      rcases Nat.lt_or_ge i 16 with h' | h'
      · rw [tb_low h']; exact h i hi h'
      · exact Nat.testBit_lt_two_pow (Nat.lt_of_lt_of_le (show n % 65536 < 2 ^ 16 by have : (2 : Nat) ^ 16 = 65536 := rfl; omega) (Nat.pow_le_pow_right (by omega) h'))
    simpa using this
/-- what a right word is: nothing, or a class and some blocks of it -/
theorem right_iff (n : Nat) : rightP n ↔ n = 0 ∨ (n / 65536 = 1 ∧ ∃ i, i < 16 ∧ n.testBit i = true) ∨ (n / 65536 = 2 ∧ (∃ i, i < 16 ∧ n.testBit i = true) ∧ ∀ i, 4 ≤ i → i < 16 → n.testBit i = false) := by
  unfold rightP
  rw [low_ne, low_lt16]
theorem hasB_nat {n : Nat} (h : rightP n) (i : Nat) (hi : i < 16) : hasB n (i : Int) = n.testBit i := by
  unfold hasB
  rw [decide_eq_true ⟨h, by omega, by omega⟩]
  simp
theorem hasB_no {n : Nat} (h : ¬ rightP n) (a : Int) : hasB n a = false := by
  unfold hasB; simp [h]
theorem hasB_true {n : Nat} {a : Int} (h : hasB n a = true) : rightP n ∧ ∃ k : Nat, a = k ∧ k < 16 ∧ n.testBit k = true := by
  unfold hasB at h
  simp only [Bool.and_eq_true, decide_eq_true_eq] at h
  obtain ⟨⟨h1, h2, h3⟩, h4⟩ := h
  exact ⟨h1, a.toNat, by omega, by omega, h4⟩
theorem hasB_range (n : Nat) (a : Int) (h : a < 0 ∨ 16 ≤ a) : hasB n a = false := by
  unfold hasB; rw [decide_eq_false (by omega)]; rfl
theorem right_lt {n : Nat} (h : rightP n) : n < 196608 := by unfold rightP at h; omega
theorem cls_div {n : Nat} (h : rightP n) : clsN n = n / 65536 := by
  have := right_lt h
  rw [clsN_eq]; omega
theorem right_ext {a b : Nat} (ha : rightP a) (hb : rightP b) (hc : a / 65536 = b / 65536 ∨ a = 0 ∨ b = 0) (h : ∀ i, i < 16 → a.testBit i = b.testBit i) : a = b := by
  rcases hc with hc | rfl | rfl
  · exact word_ext hc h
  · rcases (right_iff b).1 hb with rfl | ⟨_, i, hi, hbi⟩ | ⟨_, ⟨i, hi, hbi⟩, _⟩
    · rfl
    · rw [← h i hi] at hbi; simp at hbi
    · rw [← h i hi] at hbi; simp at hbi
  · rcases (right_iff a).1 ha with rfl | ⟨_, i, hi, hbi⟩ | ⟨_, ⟨i, hi, hbi⟩, _⟩
    · rfl
    · rw [h i hi] at hbi; simp at hbi
    · rw [h i hi] at hbi; simp at hbi
/-- the bits and the class of a word with a block taken -/
theorem take_tells {n : Nat} {c a : Int} (h : takeP n c a) : ∃ k cn : Nat, a = k ∧ c = cn ∧ k < 16 ∧ (cn = 1 ∨ cn = 2 ∧ k < 4) ∧ rightP (takeN n c a) ∧ takeN n c a / 65536 = cn ∧ (∀ i, i < 16 → (takeN n c a).testBit i = (n.testBit i || decide (i = k))) ∧ n.testBit k = false ∧ rightP n ∧ (n = 0 ∨ n / 65536 = cn) := by
  obtain ⟨⟨hr, hk, hcls⟩, h0, hb, hno⟩ := id h
  have hcn : c = 1 ∨ c = 2 := hk
  obtain ⟨k, rfl⟩ := Int.eq_ofNat_of_zero_le h0
  obtain ⟨cn, rfl⟩ := Int.eq_ofNat_of_zero_le (show 0 ≤ c by omega)
  have hkk : cn = 1 ∧ k < 16 ∨ cn = 2 ∧ k < 4 := by
    unfold blkN at hb
    rcases hcn with e | e
    · left; rw [e] at hb; simp at hb; omega
    · right; rw [e] at hb; simp at hb; omega
  have hk16 : k < 16 := by omega
  have hn := right_lt hr
  have hcd := cls_div hr
  rw [hasB_nat hr k hk16] at hno
  have hx : takeN n (cn : Int) (k : Int) = withN (withN n k 1 1) 16 2 cn := by
    unfold takeN
    rw [if_pos h, clampN_mid k (by omega)]
    rfl
  have hbits : ∀ i, (withN (withN n k 1 1) 16 2 cn).testBit i = (decide (i < 64) && if 16 ≤ i ∧ i < 18 then cn.testBit (i - 16) else (n.testBit i || decide (i = k))) := fun i => by
    rw [tb_with, tb_with]
    by_cases h64 : i < 64
    · by_cases h2 : 16 ≤ i ∧ i < 18
      · rw [if_pos (by omega), if_pos h2]
      · rw [if_neg (by omega), if_neg h2]
        by_cases h3 : i = k
        · subst h3; rw [if_pos (by omega)]; simp [h64]
        · rw [if_neg (by omega)]; simp [h64, h3]
    · simp [h64]
  have hdiv : withN (withN n k 1 1) 16 2 cn / 65536 = cn := by
    apply bits_eq
    intro i
    rw [tb_div, hbits]
    by_cases h2 : i < 2
    · rw [if_pos (by omega)]; simp [show i + 16 < 64 from by omega]
    · rw [if_neg (by omega)]
      have e1 : n.testBit (i + 16) = false := Nat.testBit_lt_two_pow (Nat.lt_of_lt_of_le (show n < 2 ^ 18 by have : (2 : Nat) ^ 18 = 262144 := rfl; omega) (Nat.pow_le_pow_right (by omega) (by omega)))
      have e2 : cn.testBit i = false := Nat.testBit_lt_two_pow (Nat.lt_of_lt_of_le (show cn < 2 ^ 2 by have : (2 : Nat) ^ 2 = 4 := rfl; omega) (Nat.pow_le_pow_right (by omega) (by omega)))
      rw [e1, e2]; simp; omega
  have hlow : ∀ i, i < 16 → (withN (withN n k 1 1) 16 2 cn).testBit i = (n.testBit i || decide (i = k)) := fun i hi => by
    rw [hbits, if_neg (by omega)]; simp [show i < 64 from by omega]
  have hcls' : n = 0 ∨ n / 65536 = cn := by
    rcases hcls with e | e
    · exact .inl e
    · rw [hcd] at e; right; omega
  rw [hx]
  refine ⟨k, cn, rfl, rfl, hk16, by omega, ?_, hdiv, hlow, hno, hr, hcls'⟩
  rw [right_iff]
  right
  rcases hkk with ⟨e, _⟩ | ⟨e, hk4⟩
  · left; exact ⟨by rw [hdiv, e], k, hk16, by rw [hlow k hk16]; simp⟩
  · right
    refine ⟨by rw [hdiv, e], ⟨k, hk16, by rw [hlow k hk16]; simp⟩, fun i h4 h16 => ?_⟩
    rw [hlow i h16]
    have e1 : n.testBit i = false := by
      rcases hcls' with rfl | e'
      · simp
      · rcases (right_iff n).1 hr with rfl | ⟨e'', _⟩ | ⟨_, _, hz⟩
        · simp
        · omega
        · exact hz i h4 h16
    rw [e1]; simp; omega
/-- the bits and the class of a word with a block dropped -/
theorem drop_tells {n : Nat} {a : Int} (h : hasB n a = true) : ∃ k : Nat, a = k ∧ k < 16 ∧ n.testBit k = true ∧ rightP n ∧ rightP (dropN n a) ∧ (dropN n a = 0 ∨ dropN n a / 65536 = n / 65536) ∧ (∀ i, i < 16 → (dropN n a).testBit i = (n.testBit i && !decide (i = k))) := by
  obtain ⟨hr, k, rfl, hk, hb⟩ := hasB_true h
  have hn := right_lt hr
  have hbits : ∀ i, (withN n k 1 0).testBit i = (n.testBit i && !decide (i = k)) := fun i => by
    rw [tb_with]
    by_cases h3 : i = k
    · subst h3; rw [if_pos (by omega)]; simp
    · rw [if_neg (by omega)]
      by_cases h64 : i < 64
      · simp [h64, h3]
      · rw [tb_hi (show n < 18446744073709551616 by omega) (by omega)]; simp
  have hdiv : withN n k 1 0 / 65536 = n / 65536 := by
    apply bits_eq
    intro i
    rw [tb_div, tb_div, hbits]
    simp; intro _; omega
  have hx : dropN n (k : Int) = if takN (withN n k 1 0) = 0 then 0 else withN n k 1 0 := by
    unfold dropN
    rw [if_pos h, clampN_mid k (by omega)]
    rfl
  refine ⟨k, rfl, hk, hb, hr, ?_⟩
  rw [hx]
  by_cases h0 : takN (withN n k 1 0) = 0
  · rw [if_pos h0]
    refine ⟨.inl rfl, .inl rfl, fun i hi => ?_⟩
    rw [← hbits]
    rw [takN_eq] at h0
    have := tb_low (n := withN n k 1 0) hi
    rw [h0] at this
    exact this
  · rw [if_neg h0]
    rw [takN_eq] at h0
    obtain ⟨j, hj, hbj⟩ := low_ne.1 (Nat.pos_of_ne_zero h0)
    refine ⟨(right_iff _).2 ?_, .inr hdiv, fun i _ => hbits i⟩
    rcases (right_iff n).1 hr with rfl | ⟨e, _⟩ | ⟨e, _, hz⟩
    · simp at hb
    · right; left; exact ⟨by rw [hdiv, e], j, hj, hbj⟩
    · right; right
      refine ⟨by rw [hdiv, e], ⟨j, hj, hbj⟩, fun i h4 h16 => ?_⟩
      rw [hbits, hz i h4 h16]; simp
/-- how many blocks are taken -/
theorem countP_flip (p q : Nat → Bool) (a : Nat) (hp : p a = true) (hq : q a = false) (h : ∀ i, i ≠ a → p i = q i) : ∀ N, a < N → (List.range N).countP p = (List.range N).countP q + 1
  | 0, hN => by omega
  | N + 1, hN => by
    rw [List.range_succ, List.countP_append, List.countP_append]
    by_cases e : a = N
    · subst e
      have : (List.range a).countP p = (List.range a).countP q := by
        apply List.countP_congr
        intro i hi
        rw [h i (by have := List.mem_range.1 hi; omega)]
      rw [this]
      simp [hp, hq]
    · rw [countP_flip p q a hp hq h N (by omega)]
      simp only [List.countP_cons, List.countP_nil]
      rw [h N (fun e' => e e'.symm)]
      omega
theorem listN_count (n : Nat) : (listN n).length = (List.range 16).countP fun i : Nat => hasB n (i : Int) := by
  unfold listN partL
  rw [List.length_map, List.countP_eq_length_filter]
theorem take_len {n : Nat} {c a : Int} (h : takeP n c a) : (listN (takeN n c a)).length = (listN n).length + 1 := by
  obtain ⟨k, cn, rfl, rfl, hk, _, hr, _, hb, hno, hrn, _⟩ := take_tells h
  rw [listN_count, listN_count]
  refine countP_flip _ _ k ?_ ?_ ?_ 16 hk
  · rw [hasB_nat hr k hk, hb k hk]; simp
  · rw [hasB_nat hrn k hk]; exact hno
  · intro i hi
    by_cases h16 : i < 16
    · rw [hasB_nat hr i h16, hasB_nat hrn i h16, hb i h16]; simp [hi]
    · rw [hasB_range _ _ (by omega), hasB_range _ _ (by omega)]
theorem drop_len {n : Nat} {a : Int} (h : hasB n a = true) : (listN n).length = (listN (dropN n a)).length + 1 := by
  obtain ⟨k, rfl, hk, hb, hr, hr', _, hbits⟩ := drop_tells h
  rw [listN_count, listN_count]
  refine countP_flip _ _ k ?_ ?_ ?_ 16 hk
  · rw [hasB_nat hr k hk]; exact hb
  · rw [hasB_nat hr' k hk, hbits k hk]; simp
  · intro i hi
    by_cases h16 : i < 16
    · rw [hasB_nat hr i h16, hasB_nat hr' i h16, hbits i h16]; simp [hi]
    · rw [hasB_range _ _ (by omega), hasB_range _ _ (by omega)]
theorem listN_zero {n : Nat} (h : rightP n) : (listN n).length = 0 ↔ n = 0 := by
  rw [listN_count]
  constructor
  · intro h0
    rw [List.countP_eq_zero] at h0
    rcases (right_iff n).1 h with rfl | ⟨_, i, hi, hb⟩ | ⟨_, ⟨i, hi, hb⟩, _⟩
    · rfl
    · exact absurd (by rw [hasB_nat h i hi]; exact hb) (h0 i (List.mem_range.2 hi))
    · exact absurd (by rw [hasB_nat h i hi]; exact hb) (h0 i (List.mem_range.2 hi))
  · rintro rfl
    rw [List.countP_eq_zero]
    intro i hi
    rw [hasB_nat h i (List.mem_range.1 hi)]; simp
theorem listN_not {n : Nat} (h : ¬ rightP n) : listN n = [] := by
  unfold listN partL
  rw [List.filter_eq_nil_iff.2 (fun i _ => by rw [hasB_no h]; simp)]
  rfl
/-- lists tell what is taken -/
theorem partL_mem (n k i : Nat) (hi : i < k) : (i : Int) ∈ partL n k ↔ hasB n (i : Int) = true := by
  unfold partL
  simp only [List.mem_map, List.mem_filter, List.mem_range]
  constructor
  · rintro ⟨j, ⟨_, hj⟩, e⟩
    obtain rfl : j = i := by omega
    exact hj
  · intro h; exact ⟨i, ⟨hi, h⟩, rfl⟩
theorem listN_eq {v w : Nat} (hv : rightP v) (hw : rightP w) : (clsS v = clsS w ∧ listN v = listN w) ↔ v = w := by
  constructor
  · rintro ⟨hc, hl⟩
    have hb : ∀ i, i < 16 → v.testBit i = w.testBit i := fun i hi => by
      rw [← hasB_nat hv i hi, ← hasB_nat hw i hi, Bool.eq_iff_iff, ← partL_mem v 16 i hi, ← partL_mem w 16 i hi]
      have : partL v 16 = partL w 16 := hl
      rw [this]
    refine right_ext hv hw (.inl ?_) hb
    unfold clsS at hc
    rw [if_pos hv, if_pos hw, cls_div hv, cls_div hw] at hc
    omega
  · rintro rfl; exact ⟨rfl, rfl⟩
end Go.Proofs.YtkmkficnkiaajaaDoor
