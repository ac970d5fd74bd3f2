/- VERSIONS AS WORDS: the plain functions, and what they are to one another. -/
import Derived.Test.YtflobafmmfigoaaNibMath
namespace Go.Proofs.Ytflobafmmfigoaa
open Go Go.RowKit

/-- bytes as a number, the lowest first -/
def leW : List Int → Int
  | [] => 0
  | c :: r => c + 256 * leW r
theorem leW_bd : ∀ (l : List Int), Byte l → 0 ≤ leW l ∧ leW l < 256 ^ l.length
  | [], _ => by simp [leW]
  | c :: r, h => by
    have hc := h c (by simp)
    have ih := leW_bd r (fun x hx => h x (by simp [hx]))
    simp only [leW, List.length_cons]
    rw [Int.pow_succ]
    constructor
    · omega
    · generalize (256 : Int) ^ r.length = p at *
      omega
theorem leW_append : ∀ (a : List Int) (c : Int), leW (a ++ [c]) = leW a + c * 256 ^ a.length
  | [], c => by simp [leW]
  | x :: r, c => by
    simp only [List.cons_append, leW, List.length_cons]
    rw [leW_append r c, Int.pow_succ]
    generalize (256 : Int) ^ r.length = p
    rw [Int.mul_add, Int.add_assoc]
    congr 2
    rw [Int.mul_left_comm, Int.mul_comm 256 p]
theorem leW_at : ∀ (l : List Int) (j : Nat), Byte l → leW l / 256 ^ j % 256 = l.getD j 0
  | [], j, _ => by simp [leW]
  | c :: r, 0, h => by
    have hc := h c (by simp)
    simp only [leW, Int.pow_zero, Int.ediv_one, List.getD_cons_zero]
    omega
  | c :: r, j + 1, h => by
    have hc := h c (by simp)
    have hr := leW_at r j (fun x hx => h x (by simp [hx]))
    simp only [leW, List.getD_cons_succ]
    rw [← hr, Int.pow_succ, Int.mul_comm ((256 : Int) ^ j) 256, ← Int.ediv_ediv_of_nonneg (by omega)]
    congr 2
    omega
/-- the k-th word of a text -/
def wd (T : List Int) (k : Nat) : Int := leW ((T.drop (8 * k)).take 8)
theorem wd_byte {T : List Int} (h : Byte T) (k : Nat) : Byte ((T.drop (8 * k)).take 8) := fun c hc => h c (List.mem_of_mem_drop (List.mem_of_mem_take hc))
theorem wd_bd {T : List Int} (h : Byte T) (k : Nat) : W64 (wd T k) := by
  have h1 := leW_bd _ (wd_byte h k)
  refine ⟨h1.1, Int.lt_of_lt_of_le h1.2 ?_⟩
  have h2 : ((T.drop (8 * k)).take 8).length ≤ 8 := by rw [List.length_take]; omega
  have h3 : (256 : Nat) ^ ((T.drop (8 * k)).take 8).length ≤ 256 ^ 8 := Nat.pow_le_pow_right (by omega) h2
  have h4 : ((256 : Nat) ^ ((T.drop (8 * k)).take 8).length : Int) ≤ ((256 ^ 8 : Nat) : Int) := by exact_mod_cast h3
  simpa using h4
/-- the words of a version -/
def wl (f s n : Int) (T : List Int) : List Int := [f, s, n, wd T 0, wd T 1, wd T 2, wd T 3, wd T 4]
def recOk (s : Int) (g : Bool) (t : ByteArray) : Prop := 0 < s ∧ t.size ≤ 40 ∧ (g = true → t.size = 0)
instance (s : Int) (g : Bool) (t : ByteArray) : Decidable (recOk s g t) := by unfold recOk; infer_instance
def recF (g : Bool) (t : ByteArray) : Int := 65536 * (t.size : Int) + 3 + if g then 256 else 0
/-- a version's words, or none -/
def encL (s n : Int) (g : Bool) (t : ByteArray) : List Int := if recOk s g t then wl (recF g t) s n (bytesOf t) else []
theorem wl_length (f s n : Int) (T : List Int) : (wl f s n T).length = 8 := rfl
theorem encL_some {s n : Int} {g : Bool} {t : ByteArray} {l : List Int} (h : encL s n g t = l) (h8 : l.length = 8) : recOk s g t ∧ l = wl (recF g t) s n (bytesOf t) := by
  unfold encL at h
  by_cases hr : recOk s g t
  · rw [if_pos hr] at h; exact ⟨hr, h.symm⟩
  · rw [if_neg hr] at h; subst h; simp at h8
theorem wd_at {T : List Int} (h : Byte T) (i : Nat) : wd T (i / 8) / 256 ^ (i % 8) % 256 = T.getD i 0 := by
  unfold wd
  rw [leW_at _ _ (wd_byte h _)]
  simp only [List.getD_eq_getElem?_getD]
  rw [List.getElem?_take_of_lt (by omega), List.getElem?_drop]
  congr 2
  omega
theorem wl_at (f s n : Int) (T : List Int) (k : Nat) (hk : k < 5) : (wl f s n T).getD (3 + k) 0 = wd T k := by
  rcases k with _ | _ | _ | _ | _ | k <;> first | rfl | omega
/-- the byte at place i of words -/
def byteAt (l : List Int) (i : Nat) : Int := l.getD (3 + i / 8) 0 / 256 ^ (i % 8) % 256
def textOf (l : List Int) : ByteArray := strOfNums ((List.range (l.getD 0 0 / 65536).toNat).map (byteAt l))
/-- which words may be read -/
def decOk (l : List Int) : Prop := l.length = 8 ∧ l.getD 0 0 / 65536 ≤ 40
instance (l : List Int) : Decidable (decOk l) := by unfold decOk; infer_instance
theorem textOf_wl {s n : Int} {g : Bool} {t : ByteArray} (h : recOk s g t) : textOf (wl (recF g t) s n (bytesOf t)) = t := by
  obtain ⟨h0, h1, h2⟩ := h
  have hq : ((wl (recF g t) s n (bytesOf t)).getD 0 0 / 65536).toNat = t.size := by
    show (recF g t / 65536).toNat = t.size
    unfold recF
    split <;> omega
  unfold textOf
  rw [hq]
  have : (List.range t.size).map (byteAt (wl (recF g t) s n (bytesOf t))) = bytesOf t := by
    apply List.ext_getElem
    · simp [bytesOf_length]
    · intro i h3 h4
      simp only [List.length_map, List.length_range] at h3
      simp only [List.getElem_map, List.getElem_range]
      unfold byteAt
      rw [wl_at _ _ _ _ _ (by omega), wd_at (bytesOf_bd t)]
      simp [h4]
  rw [this, strOf_bytes]
theorem and256 (x : Int) (h0 : W64 x) : (bits .and .u64 x 256 != 0) = (x / 256 % 2 == 1) := by
  unfold W64 at h0
  rw [u64_and x 256 h0.1 h0.2 (by omega) (by omega)]
  have h := u64_bit_test_var x 8 h0.1 (by omega)
  have e : ((2 : Int) ^ min (8 : Int).toNat 64 % 18446744073709551616).toNat = (256 : Int).toNat := rfl
  have e2 : (2 : Int) ^ (8 : Int).toNat = 256 := rfl
  rw [e, e2] at h
  rw [Bool.eq_iff_iff, bne_iff_ne, beq_iff_eq]
  constructor
  · intro hn
    by_cases hc : x / 256 % 2 = 1
    · exact hc
    · exact absurd (h.2 (fun hh => hc hh.2)) hn
  · intro hc hn
    exact (h.1 hn) ⟨by omega, hc⟩
theorem or_shift (x c : Int) (m : Nat) (h0 : 0 ≤ x) (h1 : x < 2 ^ m) (h2 : 0 ≤ c) (h3 : x + c * 2 ^ m < 18446744073709551616) : bits .or .u64 x (c * 2 ^ m) = x + c * 2 ^ m := by
  obtain ⟨X, rfl⟩ := Int.eq_ofNat_of_zero_le h0
  obtain ⟨C, rfl⟩ := Int.eq_ofNat_of_zero_le h2
  have e : (C : Int) * 2 ^ m = ((2 ^ m * C : Nat) : Int) := by push_cast; rw [Int.mul_comm]
  rw [e] at h3 ⊢
  have h1' : X < 2 ^ m := by exact_mod_cast h1
  rw [u64_or_nat X (2 ^ m * C) (by omega) (by omega), Nat.or_comm, ← Nat.two_pow_add_eq_or_of_lt h1']
  push_cast
  omega
/-- one more byte -/
theorem take_snoc (T : List Int) (i : Nat) (h : i < T.length) : T.take (i + 1) = T.take i ++ [T.getD i 0] := by
  rw [List.take_succ_eq_append_getElem h]; simp [h]
theorem wd_snoc {T : List Int} {i : Nat} (h : i < T.length) : wd (T.take (i + 1)) (i / 8) = wd (T.take i) (i / 8) + T.getD i 0 * 256 ^ (i % 8) := by
  have hl : (T.take i).length = i := by rw [List.length_take]; omega
  unfold wd
  rw [take_snoc T i h, List.drop_append_of_le_length (by rw [hl]; omega)]
  have h2 : ((T.take i).drop (8 * (i / 8))).length = i % 8 := by rw [List.length_drop, hl]; omega
  generalize hA : (T.take i).drop (8 * (i / 8)) = A at *
  rw [List.take_of_length_le (by rw [List.length_append, h2]; simp; omega), List.take_of_length_le (l := A) (by rw [h2]; omega), leW_append, h2]
theorem wd_low {T : List Int} (hb : Byte T) {i : Nat} (h : i < T.length) : 0 ≤ wd (T.take i) (i / 8) ∧ wd (T.take i) (i / 8) < 256 ^ (i % 8) := by
  have hl : (T.take i).length = i := by rw [List.length_take]; omega
  have h2 : ((T.take i).drop (8 * (i / 8))).length = i % 8 := by rw [List.length_drop, hl]; omega
  have hb' : Byte (T.take i) := fun c hc => hb c (List.mem_of_mem_take hc)
  have h3 := leW_bd _ (wd_byte hb' (i / 8))
  rw [List.take_of_length_le (by rw [h2]; omega), h2] at h3
  unfold wd
  rw [List.take_of_length_le (by rw [h2]; omega)]
  exact h3
theorem wd_else {T : List Int} {i k : Nat} (h : i < T.length) (hk : k ≠ i / 8) : wd (T.take (i + 1)) k = wd (T.take i) k := by
  have hl : (T.take i).length = i := by rw [List.length_take]; omega
  unfold wd
  rw [take_snoc T i h]
  congr 1
  rcases Nat.lt_or_ge k (i / 8) with h1 | h1
  · rw [List.drop_append_of_le_length (by rw [hl]; omega), List.take_append_of_le_length (by rw [List.length_drop, hl]; omega)]
  · rw [List.drop_of_length_le (by rw [List.length_append, hl]; simp; omega), List.drop_of_length_le (by rw [hl]; omega)]
theorem wl_step {T : List Int} (f s n : Int) {i : Nat} (h : i < T.length) (h40 : T.length ≤ 40) :
    (wl f s n (T.take i)).set (3 + i / 8) (wd (T.take i) (i / 8) + T.getD i 0 * 256 ^ (i % 8)) = wl f s n (T.take (i + 1)) := by
  rw [← wd_snoc h]
  have hk : i / 8 < 5 := by omega
  have e : ∀ k, k ≠ i / 8 → wd (T.take i) k = wd (T.take (i + 1)) k := fun k hk => (wd_else h hk).symm
  unfold wl
  generalize i / 8 = k at *
  rcases k with _ | _ | _ | _ | _ | k
  · rw [e 1 (by omega), e 2 (by omega), e 3 (by omega), e 4 (by omega)]; rfl
  · rw [e 0 (by omega), e 2 (by omega), e 3 (by omega), e 4 (by omega)]; rfl
  · rw [e 0 (by omega), e 1 (by omega), e 3 (by omega), e 4 (by omega)]; rfl
  · rw [e 0 (by omega), e 1 (by omega), e 2 (by omega), e 4 (by omega)]; rfl
  · rw [e 0 (by omega), e 1 (by omega), e 2 (by omega), e 3 (by omega)]; rfl
  · omega
theorem wl_nil (f s n : Int) : wl f s n [] = [f, s, n, 0, 0, 0, 0, 0] := rfl
theorem cand_unique {l : List Int} {s n : Int} {g : Bool} {t : ByteArray} (h8 : l.length = 8) (h : encL s n g t = l) :
    decOk l ∧ s = l.getD 1 0 ∧ n = l.getD 2 0 ∧ g = (bits .and .u64 (l.getD 0 0) 256 != 0) ∧ g = (l.getD 0 0 / 256 % 256 == 1) ∧ t = textOf l := by
  obtain ⟨hr, rfl⟩ := encL_some h h8
  have ht := textOf_wl (n := n) hr
  obtain ⟨h0, h1, h2⟩ := hr
  have hl0 : (wl (recF g t) s n (bytesOf t)).getD 0 0 = recF g t := rfl
  have hF : W64 (recF g t) := by unfold W64 recF; split <;> omega
  refine ⟨⟨h8, ?_⟩, rfl, rfl, ?_, ?_, ht.symm⟩
  · rw [hl0]; unfold recF; split <;> omega
  · rw [hl0, and256 _ hF]
    unfold recF
    cases g
    · simp; omega
    · have := h2 rfl
      rw [this]; rfl
  · rw [hl0]
    unfold recF
    cases g
    · simp; omega
    · have := h2 rfl
      rw [this]; rfl
/-- what the program's candidate is, and the document's -/
def candP (l : List Int) : Int × Int × Bool × ByteArray := (l.getD 1 0, l.getD 2 0, bits .and .u64 (l.getD 0 0) 256 != 0, textOf l)
def candR (l : List Int) : Int × Int × Bool × ByteArray := (l.getD 1 0, l.getD 2 0, l.getD 0 0 / 256 % 256 == 1, textOf l)
def encT (r : Int × Int × Bool × ByteArray) : List Int := encL r.1 r.2.1 r.2.2.1 r.2.2.2
def decP (l : List Int) : Option (Int × Int × Bool × ByteArray) := if decOk l ∧ encT (candP l) = l then some (candP l) else none
def decR (l : List Int) : Option (Int × Int × Bool × ByteArray) := if decOk l ∧ encT (candR l) = l then some (candR l) else none
theorem decP_iff {l : List Int} {r : Int × Int × Bool × ByteArray} (h8 : l.length = 8) : encT r = l → decP l = some r := by
  intro h
  obtain ⟨h1, h2, h3, h4, _, h5⟩ := cand_unique h8 h
  have e : candP l = r := by unfold candP; rw [← h2, ← h3, ← h4, ← h5]
  unfold decP
  rw [if_pos ⟨h1, by rw [e]; exact h⟩, e]
theorem decR_iff {l : List Int} {r : Int × Int × Bool × ByteArray} (h8 : l.length = 8) : encT r = l → decR l = some r := by
  intro h
  obtain ⟨h1, h2, h3, _, h4, h5⟩ := cand_unique h8 h
  have e : candR l = r := by unfold candR; rw [← h2, ← h3, ← h4, ← h5]
  unfold decR
  rw [if_pos ⟨h1, by rw [e]; exact h⟩, e]
theorem decP_some {l : List Int} {r : Int × Int × Bool × ByteArray} (h : decP l = some r) : encT r = l ∧ decOk l ∧ r = candP l := by
  unfold decP at h
  by_cases hc : decOk l ∧ encT (candP l) = l
  · rw [if_pos hc] at h; simp only [Option.some.injEq] at h; subst h; exact ⟨hc.2, hc.1, rfl⟩
  · rw [if_neg hc] at h; simp at h
theorem decR_some {l : List Int} {r : Int × Int × Bool × ByteArray} (h : decR l = some r) : encT r = l ∧ decOk l ∧ r = candR l := by
  unfold decR at h
  by_cases hc : decOk l ∧ encT (candR l) = l
  · rw [if_pos hc] at h; simp only [Option.some.injEq] at h; subst h; exact ⟨hc.2, hc.1, rfl⟩
  · rw [if_neg hc] at h; simp at h
theorem dec_same (l : List Int) : decP l = decR l := by
  cases hp : decP l with
  | some r =>
    obtain ⟨h1, h2, h3⟩ := decP_some hp
    exact (decR_iff h2.1 h1).symm
  | none =>
    cases hr : decR l with
    | none => rfl
    | some r =>
      obtain ⟨h1, h2, h3⟩ := decR_some hr
      rw [decP_iff h2.1 h1] at hp
      simp at hp
end Go.Proofs.Ytflobafmmfigoaa
