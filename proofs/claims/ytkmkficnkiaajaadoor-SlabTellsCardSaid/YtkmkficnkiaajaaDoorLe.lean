/- BYTES AS A WORD, the lowest first: the plain functions, and what they are to one another (no program in sight). -/
namespace Go.Proofs.YtkmkficnkiaajaaDoor

def Byte (l : List Int) : Prop := ∀ c ∈ l, 0 ≤ c ∧ c ≤ 255
/-- bytes as a number, the lowest first -/
def leW : List Int → Int
  | [] => 0
  | c :: r => c + 256 * leW r
theorem leW_bd : ∀ (l : List Int), Byte l → 0 ≤ leW l ∧ leW l < 256 ^ l.length
  | [], _ => by simp [leW]
  | c :: r, h => by
    have hc := h c (by simp)
    have ih := leW_bd r (fun x hx => h x (by simp [hx]))
    simp only [leW, List.length_cons]
    rw [Int.pow_succ]
    constructor
    · omega
    · generalize (256 : Int) ^ r.length = p at *
      omega
theorem leW_append : ∀ (a : List Int) (c : Int), leW (a ++ [c]) = leW a + c * 256 ^ a.length
  | [], c => by simp [leW]
  | x :: r, c => by
    simp only [List.cons_append, leW, List.length_cons]
    rw [leW_append r c, Int.pow_succ]
    generalize (256 : Int) ^ r.length = p
    rw [Int.mul_add, Int.add_assoc]
    congr 2
    rw [Int.mul_left_comm, Int.mul_comm 256 p]
theorem leW_at : ∀ (l : List Int) (j : Nat), Byte l → leW l / 256 ^ j % 256 = l.getD j 0
  | [], j, _ => by simp [leW]
  | c :: r, 0, h => by
    have hc := h c (by simp)
    simp only [leW, Int.pow_zero, Int.ediv_one, List.getD_cons_zero]
    omega
  | c :: r, j + 1, h => by
    have hc := h c (by simp)
    have hr := leW_at r j (fun x hx => h x (by simp [hx]))
    simp only [leW, List.getD_cons_succ]
    rw [← hr, Int.pow_succ, Int.mul_comm ((256 : Int) ^ j) 256, ← Int.ediv_ediv_of_nonneg (by omega)]
    congr 2
    omega
/-- the k lowest bytes of a number -/
def byL : Nat → Int → List Int
  | 0, _ => []
  | k + 1, n => n % 256 :: byL k (n / 256)
theorem byL_length : ∀ (k : Nat) (n : Int), (byL k n).length = k
  | 0, _ => rfl
  | k + 1, n => by simp [byL, byL_length k]
theorem byL_byte : ∀ (k : Nat) (n : Int), Byte (byL k n)
  | 0, _ => by simp [byL, Byte]
  | k + 1, n => by
    intro c hc
    simp only [byL, List.mem_cons] at hc
    rcases hc with rfl | hc
    · omega
    · exact byL_byte k _ c hc
theorem byL_at : ∀ (k : Nat) (n : Int) (j : Nat), j < k → (byL k n).getD j 0 = n / 256 ^ j % 256
  | 0, _, _, h => by omega
  | k + 1, n, 0, _ => by simp [byL]
  | k + 1, n, j + 1, h => by
    simp only [byL, List.getD_cons_succ]
    rw [byL_at k (n / 256) j (by omega), Int.ediv_ediv_of_nonneg (by omega), Int.pow_succ, Int.mul_comm]
theorem leW_byL : ∀ (k : Nat) (n : Int), 0 ≤ n → n < 256 ^ k → leW (byL k n) = n
  | 0, n, h0, h => by simp at h; simp [byL, leW]; omega
  | k + 1, n, h0, h => by
    simp only [byL, leW]
    rw [leW_byL k (n / 256) (by omega) (by rw [Int.pow_succ] at h; generalize (256 : Int) ^ k = p at *; omega)]
    omega
theorem byL_leW : ∀ (l : List Int), Byte l → byL l.length (leW l) = l
  | [], _ => rfl
  | c :: r, h => by
    have hc := h c (by simp)
    simp only [List.length_cons, byL, leW]
    have e1 : (c + 256 * leW r) % 256 = c := by omega
    have e2 : (c + 256 * leW r) / 256 = leW r := by omega
    rw [e1, e2, byL_leW r (fun x hx => h x (by simp [hx]))]
theorem byL_snoc (k : Nat) (n : Int) : byL (k + 1) n = byL k n ++ [n / 256 ^ k % 256] := by
  apply List.ext_getElem
  · simp [byL_length]
  · intro j h1 h2
    have e1 : (byL (k + 1) n)[j] = (byL (k + 1) n).getD j 0 := by simp [h1]
    rw [e1, byL_at _ _ _ (by simpa [byL_length] using h1)]
    simp only [byL_length] at h1
    by_cases hj : j < k
    · rw [List.getElem_append_left (by rw [byL_length]; exact hj)]
      have e2 : (byL k n)[j]'(by rw [byL_length]; exact hj) = (byL k n).getD j 0 := by simp [byL_length, hj]
      rw [e2, byL_at _ _ _ hj]
    · obtain rfl : j = k := by omega
      rw [List.getElem_append_right (by rw [byL_length]; omega)]
      simp [byL_length]
/-- the word at a place -/
def wordAt (b : List Int) (at' : Nat) : Int := leW ((b.drop at').take 8)
/-- bytes with another word there -/
def putL (b : List Int) (at' : Nat) (n : Int) : List Int := b.take at' ++ byL 8 n ++ b.drop (at' + 8)
theorem wordAt_bd {b : List Int} (h : Byte b) (i : Nat) : 0 ≤ wordAt b i ∧ wordAt b i < 18446744073709551616 := by
  have h1 := leW_bd ((b.drop i).take 8) (fun c hc => h c (List.mem_of_mem_drop (List.mem_of_mem_take hc)))
  refine ⟨h1.1, Int.lt_of_lt_of_le h1.2 ?_⟩
  have h2 : ((b.drop i).take 8).length ≤ 8 := by rw [List.length_take]; omega
  have h3 : (256 : Nat) ^ ((b.drop i).take 8).length ≤ 256 ^ 8 := Nat.pow_le_pow_right (by omega) h2
  have h4 : ((256 : Nat) ^ ((b.drop i).take 8).length : Int) ≤ ((256 ^ 8 : Nat) : Int) := by exact_mod_cast h3
  simpa using h4
theorem putL_length {b : List Int} {i : Nat} (n : Int) (h : i + 8 ≤ b.length) : (putL b i n).length = b.length := by
  simp only [putL, List.length_append, List.length_take, List.length_drop, byL_length]
  omega
theorem putL_byte {b : List Int} (h : Byte b) (i : Nat) (n : Int) : Byte (putL b i n) := by
  intro c hc
  simp only [putL, List.mem_append] at hc
  rcases hc with (hc | hc) | hc
  · exact h c (List.mem_of_mem_take hc)
  · exact byL_byte 8 n c hc
  · exact h c (List.mem_of_mem_drop hc)
theorem putL_in {b : List Int} {i : Nat} (n : Int) (h : i + 8 ≤ b.length) (j : Nat) (h1 : i ≤ j) (h2 : j < i + 8) : (putL b i n).getD j 0 = n / 256 ^ (j - i) % 256 := by
  unfold putL
  rw [List.append_assoc, List.getD_eq_getElem?_getD, List.getElem?_append_right (by simp; omega), List.getElem?_append_left (by simp [byL_length]; omega), ← List.getD_eq_getElem?_getD, byL_at _ _ _ (by simp; omega)]
  congr 3
  simp
  omega
theorem putL_out {b : List Int} {i : Nat} (n : Int) (h : i + 8 ≤ b.length) (j : Nat) (h1 : j < i ∨ i + 8 ≤ j) : (putL b i n).getD j 0 = b.getD j 0 := by
  unfold putL
  simp only [List.getD_eq_getElem?_getD]
  congr 1
  rcases h1 with h1 | h1
  · rw [List.append_assoc, List.getElem?_append_left (by simp; omega), List.getElem?_take_of_lt h1]
  · rw [List.getElem?_append_right (by simp [byL_length]; omega), List.getElem?_drop]
    congr 1
    simp [byL_length]
    omega
theorem getD_ext' {x y : List Int} (hl : x.length = y.length) (h : ∀ j, j < x.length → x.getD j 0 = y.getD j 0) : x = y := by
  apply List.ext_getElem hl
  intro i h1 h2
  have := h i h1
  simpa [h1, h2] using this
theorem wordAt_same {b c : List Int} {i : Nat} (hl : b.length = c.length) (h : ∀ j, i ≤ j → j < i + 8 → b.getD j 0 = c.getD j 0) : wordAt b i = wordAt c i := by
  unfold wordAt
  congr 1
  apply List.ext_getElem?
  intro j
  by_cases hj : j < 8
  · rw [List.getElem?_take_of_lt hj, List.getElem?_take_of_lt hj, List.getElem?_drop, List.getElem?_drop]
    by_cases hb : i + j < b.length
    · have := h (i + j) (by omega) (by omega)
      have hc : i + j < c.length := by omega
      simp [hb, hc] at this ⊢
      exact this
    · rw [List.getElem?_eq_none (by omega), List.getElem?_eq_none (by omega)]
  · rw [List.getElem?_eq_none (by rw [List.length_take]; omega), List.getElem?_eq_none (by rw [List.length_take]; omega)]
theorem wordAt_put {b : List Int} {i : Nat} {n : Int} (h : i + 8 ≤ b.length) (h0 : 0 ≤ n) (h1 : n < 18446744073709551616) : wordAt (putL b i n) i = n := by
  unfold wordAt putL
  rw [List.append_assoc, List.drop_left' (by simp; omega), List.take_left' (byL_length _ _)]
  exact leW_byL 8 n h0 (by simpa using h1)
theorem wordAt_else {b : List Int} {i j : Nat} (n : Int) (h : i + 8 ≤ b.length) (hd : j + 8 ≤ i ∨ i + 8 ≤ j) : wordAt (putL b i n) j = wordAt b j :=
  wordAt_same (putL_length n h) (fun k h1 h2 => putL_out n h k (by omega))
theorem put_same {b : List Int} {i : Nat} (hb : Byte b) (h : i + 8 ≤ b.length) : putL b i (wordAt b i) = b := by
  unfold putL wordAt
  have hl : ((b.drop i).take 8).length = 8 := by rw [List.length_take, List.length_drop]; omega
  have := byL_leW ((b.drop i).take 8) (fun c hc => hb c (List.mem_of_mem_drop (List.mem_of_mem_take hc)))
  rw [hl] at this
  rw [this, List.append_assoc]
  conv => rhs; rw [← List.take_append_drop i b, ← List.take_append_drop 8 (b.drop i), List.drop_drop]
/-- a round of Put's loop -/
theorem put_step (b : List Int) (i k : Nat) (n : Int) (h : i + 8 ≤ b.length) (hk : k < 8) :
    (b.take i ++ byL k n ++ b.drop (i + k)).set (i + k) (n / 256 ^ k % 256) = b.take i ++ byL (k + 1) n ++ b.drop (i + (k + 1)) := by
  have hd : b.drop (i + k) = b[i + k]'(by omega) :: b.drop (i + k + 1) := List.drop_eq_getElem_cons (by omega)
  have hl : (b.take i ++ byL k n).length = i + k := by simp [byL_length]; omega
  rw [hd, List.set_append_right _ _ (by omega), hl, Nat.sub_self, List.set_cons_zero, byL_snoc]
  simp [Nat.add_assoc]
/-- a round of Get's loop -/
theorem word_step (b : List Int) (i k : Nat) (h : i + 8 ≤ b.length) (hk : k < 8) : leW ((b.drop i).take (k + 1)) = leW ((b.drop i).take k) + b.getD (i + k) 0 * 256 ^ k := by
  have hl : (b.drop i).length = b.length - i := List.length_drop
  have e : ((b.drop i).take k).length = k := by rw [List.length_take]; omega
  rw [List.take_succ_eq_append_getElem (by omega), leW_append, e]
  congr 2
  rw [List.getElem_drop]
  simp [show i + k < b.length from by omega]
end Go.Proofs.YtkmkficnkiaajaaDoor
