/- NIBBLES: the plain functions, and what they are to one another. -/
import Derived.Test.YtflobafmmfigoaaBase
namespace Go.Proofs.Ytflobafmmfigoaa
open Go Go.RowKit

abbrev Byte (l : List Int) : Prop := ∀ c ∈ l, 0 ≤ c ∧ c ≤ 255

/-- the nibbles of bytes -/
def ofL : List Int → List Int
  | [] => []
  | c :: r => c / 16 :: c % 16 :: ofL r
theorem ofL_length (l : List Int) : (ofL l).length = 2 * l.length := by
  induction l with
  | nil => rfl
  | cons c r ih => simp only [ofL, List.length_cons, ih]; omega
theorem ofL_append (a b : List Int) : ofL (a ++ b) = ofL a ++ ofL b := by
  induction a with
  | nil => rfl
  | cons c r ih => simp only [List.cons_append, ofL, ih]
theorem ofL_small (l : List Int) (h : Byte l) : ∀ c ∈ ofL l, 0 ≤ c ∧ c < 16 := by
  induction l with
  | nil => simp [ofL]
  | cons c r ih =>
    have hc := h c (by simp)
    intro x hx
    simp only [ofL, List.mem_cons] at hx
    rcases hx with rfl | rfl | hx
    · omega
    · omega
    · exact ih (fun y hy => h y (by simp [hy])) x hx
theorem ofL_byte (l : List Int) (h : Byte l) : Byte (ofL l) := fun c hc => by have := ofL_small l h c hc; omega
theorem ofL_snoc (l : List Int) (k : Nat) (h : k < l.length) : ofL (l.take (k + 1)) = ofL (l.take k) ++ [l.getD k 0 / 16, l.getD k 0 % 16] := by
  rw [List.take_succ_eq_append_getElem h, ofL_append]; simp [ofL, h]
theorem and15_u8 (c : Int) (h0 : 0 ≤ c) (h1 : c ≤ 255) : bits .and .u8 c 15 = c % 16 := by
  rw [u8_and c 15 h0 (by omega) (by omega) (by omega)]
  have : c.toNat &&& (15 : Int).toNat = c.toNat % 16 := Nat.and_two_pow_sub_one_eq_mod c.toNat 4
  rw [this]; omega

/-- the bytes of nibbles, or none -/
def keyL : List Int → Option (List Int)
  | [] => some []
  | [_] => none
  | a :: b :: r => if a < 16 ∧ b < 16 then (keyL r).map fun q => (a * 16 + b) :: q else none
theorem keyL_odd : ∀ l : List Int, l.length % 2 = 1 → keyL l = none
  | [], h => by simp at h
  | [_], _ => rfl
  | a :: b :: r, h => by
    simp only [keyL]
    rw [keyL_odd r (by simp at h; omega)]
    split <;> rfl
theorem keyL_of (l : List Int) (h : Byte l) : keyL (ofL l) = some l := by
  induction l with
  | nil => rfl
  | cons c r ih =>
    have hc := h c (by simp)
    simp only [ofL, keyL]
    rw [if_pos (by omega), ih (fun y hy => h y (by simp [hy]))]
    simp only [Option.map_some]
    congr 2
    omega
theorem keyL_back : ∀ (l m : List Int), (∀ c ∈ l, 0 ≤ c) → keyL l = some m → ofL m = l ∧ Byte m
  | [], m, _, h => by simp only [keyL, Option.some.injEq] at h; subst h; exact ⟨rfl, fun c hc => by cases hc⟩
  | [_], _, _, h => by cases h
  | a :: b :: r, m, h0, h => by
    simp only [keyL] at h
    by_cases hab : a < 16 ∧ b < 16
    · rw [if_pos hab] at h
      cases hk : keyL r with
      | none => rw [hk] at h; simp at h
      | some q =>
        rw [hk] at h
        simp only [Option.map_some, Option.some.injEq] at h
        subst h
        have ha := h0 a (by simp); have hb := h0 b (by simp)
        obtain ⟨e, hq⟩ := keyL_back r q (fun c hc => h0 c (by simp [hc])) hk
        refine ⟨?_, ?_⟩
        · simp only [ofL]; rw [e]
          congr 1
          · omega
          · congr 1; omega
        · intro c hc
          simp only [List.mem_cons] at hc
          rcases hc with rfl | hc
          · omega
          · exact hq c hc
    · rw [if_neg hab] at h; simp at h
/-- a step of two -/
theorem drop_two (l : List Int) (k : Nat) (h : 2 * k + 1 < l.length) : l.drop (2 * k) = l.getD (2 * k) 0 :: l.getD (2 * k + 1) 0 :: l.drop (2 * (k + 1)) := by
  rw [List.drop_eq_getElem_cons (by omega), List.drop_eq_getElem_cons (by omega)]
  simp [show 2 * k < l.length from by omega, h, show 2 * (k + 1) = 2 * k + 1 + 1 from by omega]
theorem keyL_step (l : List Int) (k : Nat) (pre : List Int) (h : 2 * k + 1 < l.length) (hk : keyL l = (keyL (l.drop (2 * k))).map (pre ++ ·)) :
    (l.getD (2 * k) 0 < 16 ∧ l.getD (2 * k + 1) 0 < 16 → keyL l = (keyL (l.drop (2 * (k + 1)))).map ((pre ++ [l.getD (2 * k) 0 * 16 + l.getD (2 * k + 1) 0]) ++ ·)) ∧
    (¬ (l.getD (2 * k) 0 < 16 ∧ l.getD (2 * k + 1) 0 < 16) → keyL l = none) := by
  rw [drop_two l k h] at hk
  simp only [keyL] at hk
  constructor
  · intro h1
    rw [if_pos h1] at hk
    rw [hk, Option.map_map]
    congr 1
    funext x
    simp
  · intro h1
    rw [if_neg h1] at hk
    simpa using hk

/-- with how many two lists begin alike -/
def commonL : List Int → List Int → Nat
  | a :: x, b :: y => if a = b then commonL x y + 1 else 0
  | _, _ => 0
theorem commonL_le : ∀ a b : List Int, commonL a b ≤ a.length ∧ commonL a b ≤ b.length
  | [], b => by simp [commonL]
  | _ :: _, [] => by simp [commonL]
  | a :: x, b :: y => by
    have := commonL_le x y
    simp only [commonL]; split <;> simp <;> omega
theorem commonL_at : ∀ (a b : List Int) (k : Nat), k < a.length → k < b.length → k ≤ commonL a b → (commonL a b = k ↔ a.getD k 0 ≠ b.getD k 0)
  | [], _, _, h, _, _ => by simp at h
  | _ :: _, [], _, _, h, _ => by simp at h
  | a :: x, b :: y, 0, _, _, _ => by
    simp only [commonL, List.getD_cons_zero]
    by_cases e : a = b
    · simp [e]
    · simp [e]
  | a :: x, b :: y, k + 1, h1, h2, h3 => by
    simp only [commonL, List.getD_cons_succ] at h3 ⊢
    by_cases e : a = b
    · rw [if_pos e] at h3 ⊢
      have := commonL_at x y k (by simpa using h1) (by simpa using h2) (by omega)
      omega
    · rw [if_neg e] at h3; omega
theorem commonL_comm : ∀ a b : List Int, commonL a b = commonL b a
  | [], [] => rfl
  | [], _ :: _ => rfl
  | _ :: _, [] => rfl
  | a :: x, b :: y => by
    simp only [commonL]; rw [commonL_comm x y]
    by_cases e : a = b
    · rw [if_pos e, if_pos e.symm]
    · rw [if_neg e, if_neg (fun h => e h.symm)]
theorem commonL_pre : ∀ a b : List Int, commonL a (a ++ b) = a.length
  | [], b => by cases b <;> rfl
  | a :: x, b => by simp only [List.cons_append, commonL, if_true, List.length_cons]; rw [commonL_pre x b]
theorem commonL_self (a : List Int) : commonL a a = a.length := by simpa using commonL_pre a []
theorem commonL_take : ∀ a b : List Int, a.take (commonL a b) = b.take (commonL a b)
  | [], b => by simp [commonL]
  | _ :: _, [] => by simp [commonL]
  | a :: x, b :: y => by
    simp only [commonL]
    by_cases e : a = b
    · rw [if_pos e, List.take_succ_cons, List.take_succ_cons, e, commonL_take x y]
    · rw [if_neg e]; rfl
theorem commonL_of : ∀ a b : List Int, Byte a → Byte b → commonL (ofL a) (ofL b) = 2 * commonL a b ∨ commonL (ofL a) (ofL b) = 2 * commonL a b + 1
  | [], b, _, _ => by simp [ofL, commonL]
  | _ :: _, [], _, _ => by simp [ofL, commonL]
  | a :: x, b :: y, ha, hb => by
    have h1 := ha a (by simp); have h2 := hb b (by simp)
    have ih := commonL_of x y (fun c hc => ha c (by simp [hc])) (fun c hc => hb c (by simp [hc]))
    simp only [ofL, commonL]
    by_cases e : a = b
    · subst e; simp only [if_true]; omega
    · rw [if_neg e]
      by_cases e1 : a / 16 = b / 16
      · rw [if_pos e1, if_neg (by omega)]; omega
      · rw [if_neg e1]; omega

/-- does a list stand ahead of another one? -/
def lessL (a b : List Int) : Bool := Op.bytesLess (strOfNums a).toList (strOfNums b).toList
def lessN : List Int → List Int → Bool
  | _, [] => false
  | [], _ :: _ => true
  | a :: x, b :: y => decide (a < b) || (a == b && lessN x y)
theorem toList_strOf (l : List Int) : (strOfNums l).toList = l.map fun n => UInt8.ofNat n.toNat := by
  rw [← strOfNums_data]; exact ByteArray.toList_eq _
theorem lessN_eq : ∀ a b : List Int, Byte a → Byte b → Op.bytesLess (a.map fun n => UInt8.ofNat n.toNat) (b.map fun n => UInt8.ofNat n.toNat) = lessN a b
  | [], [], _, _ => rfl
  | _ :: _, [], _, _ => rfl
  | [], _ :: _, _, _ => rfl
  | a :: x, b :: y, ha, hb => by
    have h1 := ha a (by simp); have h2 := hb b (by simp)
    simp only [List.map_cons, Op.bytesLess, lessN]
    rw [lessN_eq x y (fun c hc => ha c (by simp [hc])) (fun c hc => hb c (by simp [hc]))]
    have e1 : (UInt8.ofNat a.toNat < UInt8.ofNat b.toNat) ↔ a < b := by
      rw [UInt8.lt_iff_toNat_lt]; simp only [UInt8.toNat_ofNat', Nat.reducePow]; omega
    have e2 : (UInt8.ofNat a.toNat = UInt8.ofNat b.toNat) ↔ a = b := by
      rw [← UInt8.toNat_inj]; simp only [UInt8.toNat_ofNat', Nat.reducePow]; omega
    congr 1
    · exact decide_eq_decide.2 e1
    · congr 1
      rw [Bool.eq_iff_iff, beq_iff_eq, beq_iff_eq]; exact e2
theorem lessL_eq (a b : List Int) (ha : Byte a) (hb : Byte b) : lessL a b = lessN a b := by
  unfold lessL; rw [toList_strOf, toList_strOf]; exact lessN_eq a b ha hb
/-- by the first place at which they part -/
theorem lessN_common : ∀ a b : List Int, lessN a b = (if commonL a b = b.length then false else if commonL a b = a.length then true else decide (a.getD (commonL a b) 0 < b.getD (commonL a b) 0))
  | [], [] => rfl
  | _ :: _, [] => rfl
  | [], _ :: _ => rfl
  | a :: x, b :: y => by
    simp only [lessN, commonL]
    by_cases e : a = b
    · subst e
      simp only [if_true, List.length_cons, Nat.add_right_cancel_iff, List.getD_cons_succ, beq_self_eq_true, Bool.true_and]
      rw [lessN_common x y]; simp
    · simp [e]
theorem lessN_of : ∀ a b : List Int, Byte a → Byte b → lessN (ofL a) (ofL b) = lessN a b
  | [], [], _, _ => rfl
  | _ :: _, [], _, _ => rfl
  | [], _ :: _, _, _ => rfl
  | a :: x, b :: y, ha, hb => by
    have h1 := ha a (by simp); have h2 := hb b (by simp)
    have ih := lessN_of x y (fun c hc => ha c (by simp [hc])) (fun c hc => hb c (by simp [hc]))
    simp only [ofL, lessN, ih]
    rw [Bool.eq_iff_iff]
    simp only [Bool.or_eq_true, decide_eq_true_eq, Bool.and_eq_true, beq_iff_eq]
    constructor
    · rintro (h | ⟨h, h' | ⟨h', h''⟩⟩)
      · left; omega
      · left; omega
      · right; exact ⟨by omega, h''⟩
    · rintro (h | ⟨h, h'⟩)
      · by_cases e : a / 16 < b / 16
        · exact .inl e
        · right; exact ⟨by omega, .inl (by omega)⟩
      · subst h; right; exact ⟨rfl, .inr ⟨rfl, h'⟩⟩

/-- nibbles as a number, the first one the lowest -/
def valL : List Int → Int
  | [] => 0
  | b :: r => b + 16 * valL r
def small (l : List Int) : Prop := ∀ c ∈ l, 0 ≤ c ∧ c < 16
theorem valL_append (a b : List Int) : valL (a ++ b) = valL a + 16 ^ a.length * valL b := by
  induction a with
  | nil => simp [valL]
  | cons c r ih => simp only [List.cons_append, valL, ih, List.length_cons, Int.pow_succ, Int.mul_add, ← Int.mul_assoc]; rw [Int.mul_comm 16 (16 ^ r.length)]; omega
theorem valL_bd (l : List Int) (h : small l) : 0 ≤ valL l ∧ valL l < 16 ^ l.length := by
  induction l with
  | nil => simp [valL]
  | cons c r ih =>
    have hc := h c (by simp)
    have := ih (fun y hy => h y (by simp [hy]))
    simp only [valL, List.length_cons, Int.pow_succ]; omega
theorem valL_inj : ∀ (a b : List Int), small a → small b → a.length = b.length → valL a = valL b → a = b
  | [], [], _, _, _, _ => rfl
  | [], _ :: _, _, _, h, _ => by simp at h
  | _ :: _, [], _, _, h, _ => by simp at h
  | a :: x, b :: y, ha, hb, hl, hv => by
    have h1 := ha a (by simp); have h2 := hb b (by simp)
    simp only [valL] at hv
    have e : a = b := by omega
    rw [e, valL_inj x y (fun c hc => ha c (by simp [hc])) (fun c hc => hb c (by simp [hc])) (by simpa using hl) (by omega)]
/-- the lowest n nibbles of a number -/
def digL (x : Int) : Nat → List Int
  | 0 => []
  | n + 1 => x % 16 :: digL (x / 16) n
theorem digL_length (n : Nat) : ∀ x, (digL x n).length = n := by
  induction n with
  | zero => intro x; rfl
  | succ n ih => intro x; simp [digL, ih]
theorem digL_small (n : Nat) : ∀ x, small (digL x n) := by
  induction n with
  | zero => intro x c hc; simp [digL] at hc
  | succ n ih =>
    intro x c hc
    simp only [digL, List.mem_cons] at hc
    rcases hc with rfl | hc
    · omega
    · exact ih _ c hc
theorem digL_val (n : Nat) : ∀ x, 0 ≤ x → valL (digL x n) = x % 16 ^ n := by
  induction n with
  | zero => intro x _; simp [digL, valL]
  | succ n ih =>
    intro x hx
    simp only [digL, valL]
    rw [ih (x / 16) (by omega), Int.pow_succ, Int.mul_comm (16 ^ n) 16]
    have h1 := Int.emod_add_mul_ediv x 16
    have h2 := Int.emod_add_mul_ediv (x / 16) (16 ^ n)
    have h3 : x % (16 * 16 ^ n) = x - 16 * 16 ^ n * (x / (16 * 16 ^ n)) := by have := Int.emod_add_mul_ediv x (16 * 16 ^ n); omega
    have h4 : x / 16 / 16 ^ n = x / (16 * 16 ^ n) := Int.ediv_ediv_of_nonneg (by omega)
    rw [h3, ← h4, Int.mul_assoc]
    omega
theorem digL_snoc (n : Nat) : ∀ x, 0 ≤ x → digL x (n + 1) = digL x n ++ [x / 16 ^ n % 16] := by
  induction n with
  | zero => intro x _; simp [digL]
  | succ n ih =>
    intro x hx
    rw [digL, ih (x / 16) (by omega), digL, List.cons_append, Int.pow_succ, Int.mul_comm (16 ^ n) 16, Int.ediv_ediv_of_nonneg (by omega)]
/-- nibbles as a word, or none -/
def packL (l : List Int) : Option Int := if l.length ≤ 15 ∧ (∀ c ∈ l, c < 16) then some (l.length + 16 * valL l) else none
/-- the nibbles of a word, or none -/
def unpackL (w : Int) : Option (List Int) := if w / 16 < 16 ^ (w % 16).toNat then some (digL (w / 16) (w % 16).toNat) else none
theorem unpack_pack (l : List Int) (x : Int) (h0 : ∀ c ∈ l, 0 ≤ c) (h : packL l = some x) : unpackL x = some l := by
  unfold packL at h
  by_cases hc : l.length ≤ 15 ∧ ∀ c ∈ l, c < 16
  · rw [if_pos hc] at h
    simp only [Option.some.injEq] at h
    subst h
    have hs : small l := fun c hx => ⟨h0 c hx, hc.2 c hx⟩
    have hb := valL_bd l hs
    have e1 : ((l.length : Int) + 16 * valL l) % 16 = l.length := by omega
    have e2 : ((l.length : Int) + 16 * valL l) / 16 = valL l := by omega
    unfold unpackL
    rw [e1, e2, Int.toNat_natCast, if_pos hb.2]
    congr 1
    apply valL_inj _ _ (digL_small _ _) hs (by rw [digL_length])
    rw [digL_val _ _ hb.1, Int.emod_eq_of_lt hb.1 hb.2]
  · rw [if_neg hc] at h; cases h
theorem pack_unpack (w : Int) (l : List Int) (h0 : 0 ≤ w) (h : unpackL w = some l) : packL l = some w := by
  unfold unpackL at h
  by_cases hc : w / 16 < 16 ^ (w % 16).toNat
  · rw [if_pos hc] at h
    simp only [Option.some.injEq] at h
    subst h
    unfold packL
    rw [if_pos ⟨by rw [digL_length]; omega, fun c hx => (digL_small _ _ c hx).2⟩, digL_length, digL_val _ _ (by omega), Int.emod_eq_of_lt (by omega) hc]
    congr 1; omega
  · rw [if_neg hc] at h; cases h
end Go.Proofs.Ytflobafmmfigoaa
