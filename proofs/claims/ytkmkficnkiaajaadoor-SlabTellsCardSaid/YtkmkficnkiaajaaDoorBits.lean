/- BITS OF A WORD, as whole numbers: the plain functions, and what they are to one another (no program in sight). -/
namespace Go.Proofs.YtkmkficnkiaajaaDoor

/-- 'many' bits from 'low' on -/
def fieldN (n L M : Nat) : Nat := n / 2 ^ L % 2 ^ M
/-- a word with other bits there -/
def withN (n L M v : Nat) : Nat := (n &&& (18446744073709551615 - (2 ^ M - 1) * 2 ^ L % 18446744073709551616)) ||| (v % 2 ^ M * 2 ^ L % 18446744073709551616)
theorem p64 : (18446744073709551616 : Nat) = 2 ^ 64 := rfl
theorem tb_field (n L M i : Nat) : (fieldN n L M).testBit i = (decide (i < M) && n.testBit (L + i)) := by
  unfold fieldN
  rw [Nat.testBit_mod_two_pow, Nat.testBit_div_two_pow, Nat.add_comm L i]
theorem tb_hi {n i : Nat} (h : n < 18446744073709551616) (hi : 64 ≤ i) : n.testBit i = false := by
  rw [p64] at h
  exact Nat.testBit_lt_two_pow (Nat.lt_of_lt_of_le h (Nat.pow_le_pow_right (by omega) hi))
theorem tb_shift (x L i : Nat) : (x * 2 ^ L % 18446744073709551616).testBit i = (decide (i < 64) && (decide (L ≤ i) && x.testBit (i - L))) := by
  rw [p64, Nat.testBit_mod_two_pow, Nat.testBit_mul_two_pow]
theorem tb_mask (M i : Nat) : (2 ^ M - 1).testBit i = decide (i < M) := Nat.testBit_two_pow_sub_one M i
theorem tb_compl {x i : Nat} (h : x < 18446744073709551616) : (18446744073709551615 - x).testBit i = (decide (i < 64) && !x.testBit i) := by
  have e : 18446744073709551615 - x = 2 ^ 64 - (x + 1) := by omega
  rw [e]
  exact Nat.testBit_two_pow_sub_succ (by rw [← p64]; exact h) i
theorem with_lt (n L M v : Nat) : withN n L M v < 18446744073709551616 := by
  unfold withN
  rw [p64]
  refine Nat.or_lt_two_pow ?_ (Nat.mod_lt _ (by omega))
  refine Nat.lt_of_le_of_lt Nat.and_le_right ?_
  omega
theorem tb_with (n L M v i : Nat) : (withN n L M v).testBit i = (decide (i < 64) && if L ≤ i ∧ i < L + M then v.testBit (i - L) else n.testBit i) := by
  unfold withN
  rw [Nat.testBit_or, Nat.testBit_and, tb_compl (Nat.mod_lt _ (by omega)), tb_shift, tb_shift, tb_mask, Nat.testBit_mod_two_pow]
  by_cases h1 : i < 64 <;> by_cases h2 : L ≤ i <;> by_cases h3 : i - L < M <;> by_cases h4 : i < L + M <;> simp [h1, h2, h3, h4] <;> omega
theorem field_lt (n L M : Nat) : fieldN n L M < 2 ^ M := Nat.mod_lt _ (Nat.pow_pos (by omega))
theorem field_lt64 {n : Nat} (L M : Nat) (h : n < 18446744073709551616) : fieldN n L M < 18446744073709551616 := by
  unfold fieldN
  exact Nat.lt_of_le_of_lt (Nat.mod_le _ _) (Nat.lt_of_le_of_lt (Nat.div_le_self _ _) h)
theorem bits_eq {a b : Nat} (h : ∀ i, a.testBit i = b.testBit i) : a = b := Nat.eq_of_testBit_eq h
/-- one bit set anew -/
theorem set_bit (x j : Nat) (c : Bool) (i : Nat) : (x - (if x.testBit j then 2 ^ j else 0) + (if c then 2 ^ j else 0)).testBit i = if i = j then c else x.testBit i := by
  have hd : x = 2 ^ j * (x / 2 ^ j) + x % 2 ^ j := (Nat.div_add_mod x (2 ^ j)).symm
  have hlt : x % 2 ^ j < 2 ^ j := Nat.mod_lt _ (Nat.pow_pos (by omega))
  have hb : x.testBit j = decide (x / 2 ^ j % 2 = 1) := Nat.testBit_eq_decide_div_mod_eq
  have hx : ∀ k, x.testBit k = if k < j then (x % 2 ^ j).testBit k else (x / 2 ^ j).testBit (k - j) := fun k => by
    conv => lhs; rw [hd]
    exact Nat.testBit_two_pow_mul_add _ hlt k
  have key : ∀ q r, r < 2 ^ j → q = 2 * (x / 2 ^ j / 2) + (if c then 1 else 0) → (2 ^ j * q + x % 2 ^ j).testBit i = if i = j then c else x.testBit i := by
    intro q r _ hq
    rw [Nat.testBit_two_pow_mul_add _ hlt, hx i]
    by_cases h1 : i < j
    · rw [if_pos h1, if_pos h1, if_neg (by omega)]
    · rw [if_neg h1, if_neg h1]
      by_cases h2 : i = j
      · subst h2
        rw [if_pos rfl, Nat.sub_self, Nat.testBit_zero, hq]
        cases c <;> simp <;> omega
      · rw [if_neg h2]
        obtain ⟨k, rfl⟩ : ∃ k, i = j + (k + 1) := ⟨i - j - 1, by omega⟩
        have e : j + (k + 1) - j = k + 1 := by omega
        rw [e, Nat.testBit_succ, Nat.testBit_succ]
        congr 1
        rw [hq]
        cases c <;> simp <;> omega
  have hval : x - (if x.testBit j then 2 ^ j else 0) + (if c then 2 ^ j else 0) = 2 ^ j * (2 * (x / 2 ^ j / 2) + (if c then 1 else 0)) + x % 2 ^ j := by
    rw [hb]
    generalize x / 2 ^ j = q at *
    generalize x % 2 ^ j = r at *
    generalize 2 ^ j = p at *
    subst hd
    obtain ⟨m, hm⟩ : ∃ m, q = 2 * m + q % 2 := ⟨q / 2, by omega⟩
    have hq2 : q / 2 = m := by omega
    rw [hq2]
    by_cases ho : q % 2 = 1
    · rw [hm, ho]
      have e1 : p * (2 * m + 1) = p * (2 * m) + p := by rw [Nat.mul_add, Nat.mul_one]
      rw [e1]
      cases c
      · simp; omega
      · simp [Nat.mul_add]; omega
    · have ho' : q % 2 = 0 := by omega
      rw [hm, ho']
      cases c
      · simp
      · simp [Nat.mul_add]; omega
  rw [hval]
  exact key _ 0 (Nat.pow_pos (by omega)) rfl
/-- a round of the document's Field -/
theorem field_step (n L k : Nat) : fieldN n L (k + 1) = fieldN n L k + if n.testBit (L + k) then 2 ^ k else 0 := by
  unfold fieldN
  rw [Nat.mod_pow_succ, Nat.testBit_eq_decide_div_mod_eq, Nat.pow_add, Nat.div_div_eq_div_mul]
  congr 1
  have h : n / (2 ^ L * 2 ^ k) % 2 = 0 ∨ n / (2 ^ L * 2 ^ k) % 2 = 1 := by omega
  rcases h with h | h <;> simp [h]
/-- a round of the document's With -/
theorem with_step (n L k v : Nat) (h : L + k < 64) :
    withN n L (k + 1) v = withN n L k v - (if n.testBit (L + k) then 2 ^ (L + k) else 0) + if v.testBit k then 2 ^ (L + k) else 0 := by
  have e : n.testBit (L + k) = (withN n L k v).testBit (L + k) := by
    rw [tb_with, if_neg (by omega)]
    simp [h]
  rw [e]
  apply bits_eq
  intro i
  rw [set_bit, tb_with, tb_with]
  by_cases h1 : i = L + k
  · subst h1
    rw [if_pos (by omega), if_pos rfl]
    have : L + k - L = k := by omega
    simp [h, this]
  · rw [if_neg h1]
    by_cases h2 : L ≤ i ∧ i < L + k
    · rw [if_pos h2, if_pos (by omega)]
    · rw [if_neg h2, if_neg (by omega)]
theorem with_zero (n L v : Nat) (hn : n < 18446744073709551616) : withN n L 0 v = n := by
  apply bits_eq
  intro i
  rw [tb_with, if_neg (by omega)]
  by_cases h : i < 64
  · simp [h]
  · rw [tb_hi hn (by omega)]; simp
theorem with_over (n L M M' v : Nat) (h : 64 ≤ L + M) (h' : 64 ≤ L + M') : withN n L M v = withN n L M' v := by
  apply bits_eq
  intro i
  rw [tb_with, tb_with]
  by_cases h1 : i < 64
  · by_cases h2 : L ≤ i
    · rw [if_pos (by omega), if_pos (by omega)]
    · rw [if_neg (by omega), if_neg (by omega)]
  · simp [h1]
theorem field_over (n L M : Nat) (hn : n < 18446744073709551616) (h : 64 ≤ L + M) : fieldN n L M = n / 2 ^ L := by
  apply bits_eq
  intro i
  rw [tb_field, Nat.testBit_div_two_pow, Nat.add_comm i L]
  by_cases h1 : i < M
  · simp [h1]
  · rw [tb_hi hn (by omega)]; simp
/-- the lowest bit that is not set: 'k' of them are -/
def lowsSet (n k : Nat) : Prop := ∀ i, i < k → n.testBit i = true
theorem lows_field {n k : Nat} (h : lowsSet n k) : fieldN n 0 k = fieldN 18446744073709551615 0 k ∨ 64 < k := by
  by_cases hk : 64 < k
  · exact .inr hk
  · refine .inl (bits_eq fun i => ?_)
    rw [tb_field, tb_field]
    by_cases hi : i < k
    · have e : (18446744073709551615 : Nat) = 2 ^ 64 - 1 := rfl
      rw [Nat.zero_add, h i hi, e, tb_mask]
      simp; omega
    · simp [hi]
end Go.Proofs.YtkmkficnkiaajaaDoor
