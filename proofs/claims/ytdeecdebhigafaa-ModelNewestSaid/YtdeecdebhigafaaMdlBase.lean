/- MODEL: writes, pairs and commits as they lie in memory. -/
import Derived.Test.YtdeecdebhigafaaWide
import Derived.Lib.Bytealg
import Derived.Laws.Externs
import Derived.Test.YtdeecdebhigafaaProg
namespace Go.Proofs.Ytdeecdebhigafaa
open Go Go.RowKit

structure Wr where
  key : ByteArray
  text : ByteArray
  gone : Bool
structure Pr where
  key : ByteArray
  text : ByteArray
structure Cm where
  stamp : Nat
  set : Value
instance : Inhabited Wr := ⟨⟨ByteArray.empty, ByteArray.empty, false⟩⟩
instance : Inhabited Pr := ⟨⟨ByteArray.empty, ByteArray.empty⟩⟩
def EW : Wide Wr := ⟨fun x => [.string x.key, .string x.text, .bool x.gone], 3, fun _ => rfl, fun x u hu => by simp at hu; rcases hu with rfl | rfl | rfl <;> rfl, by omega⟩
def EP : Wide Pr := ⟨fun x => [.string x.key, .string x.text], 2, fun _ => rfl, fun x u hu => by simp at hu; rcases hu with rfl | rfl <;> rfl, by omega⟩
theorem oneW (k t : ByteArray) (g : Bool) : (#[Value.string k, Value.string t, Value.bool g].all fun x => x.oneCell') = true := by simp [Value.oneCell']
theorem oneP (k t : ByteArray) : (#[Value.string k, Value.string t].all fun x => x.oneCell') = true := by simp [Value.oneCell']
theorem rowW : RowOfW Try.prog 35 70 EW (.agg #[.string ByteArray.empty, .string ByteArray.empty, .bool false]) 40 := ⟨Try.underlying35, by kernel_rfl, rfl⟩
theorem rowRW : RowOfW Try.prog 23 52 EW (.agg #[.string ByteArray.empty, .string ByteArray.empty, .bool false]) 40 := ⟨Try.underlying23, by kernel_rfl, rfl⟩
theorem rowP : RowOfW Try.prog 48 60 EP (.agg #[.string ByteArray.empty, .string ByteArray.empty]) 32 := ⟨Try.underlying48, by kernel_rfl, rfl⟩
theorem rowRP : RowOfW Try.prog 46 79 EP (.agg #[.string ByteArray.empty, .string ByteArray.empty]) 32 := ⟨Try.underlying46, by kernel_rfl, rfl⟩

theorem Rows.w3 {w : World} {a : Option Addr} {n cap k : Nat} {l : List Wr} {x : Wr} (h : Rows EW w (.slice a n cap) l) (hx : l[k]? = some x) :
    ∃ b off, a = some ⟨b, off, none⟩ ∧ n = l.length ∧ w.cell? ⟨b, off + k * 3, none⟩ = some (.string x.key) ∧ w.cell? ⟨b, off + k * 3 + 1, none⟩ = some (.string x.text) ∧ w.cell? ⟨b, off + k * 3 + 2, none⟩ = some (.bool x.gone) := by
  have hn : 0 < l.length := by have := (List.getElem?_eq_some_iff.1 hx).1; omega
  obtain ⟨b, off, rfl, _, hc⟩ := h.at_ hn
  exact ⟨b, off, rfl, h.len_eq, hc k x hx 0 _ rfl, hc k x hx 1 _ rfl, hc k x hx 2 _ rfl⟩
theorem Rows.p2 {w : World} {a : Option Addr} {n cap k : Nat} {l : List Pr} {x : Pr} (h : Rows EP w (.slice a n cap) l) (hx : l[k]? = some x) :
    ∃ b off, a = some ⟨b, off, none⟩ ∧ n = l.length ∧ w.cell? ⟨b, off + k * 2, none⟩ = some (.string x.key) ∧ w.cell? ⟨b, off + k * 2 + 1, none⟩ = some (.string x.text) := by
  have hn : 0 < l.length := by have := (List.getElem?_eq_some_iff.1 hx).1; omega
  obtain ⟨b, off, rfl, _, hc⟩ := h.at_ hn
  exact ⟨b, off, rfl, h.len_eq, hc k x hx 0 _ rfl, hc k x hx 1 _ rfl⟩
/-- the order of the keys -/
theorem less_eq : ∀ (x y : List UInt8), Op.bytesLess x y = decide (x < y)
  | [], [] => by simp [Op.bytesLess]
  | _ :: _, [] => by simp [Op.bytesLess]
  | [], _ :: _ => by simp [Op.bytesLess]
  | a :: x, b :: y => by
    rw [Op.bytesLess, less_eq x y]
    simp only [List.cons_lt_cons_iff]
    by_cases h1 : a < b <;> by_cases h2 : a = b <;> by_cases h3 : x < y <;> simp [h1, h2, h3]
theorem ltL_irrefl (x : List UInt8) : ¬ x < x := List.lt_irrefl x
theorem ltL_trans {x y z : List UInt8} (h : x < y) (k : y < z) : x < z := List.lt_trans h k
theorem ltL_or (x y : List UInt8) : x < y ∨ x = y ∨ y < x := by
  by_cases h : x < y
  · exact .inl h
  · by_cases k : y < x
    · exact .inr (.inr k)
    · exact .inr (.inl (List.le_antisymm (List.not_lt.1 k) (List.not_lt.1 h)))
theorem cmp_lt : ∀ a b : List UInt8, Lib.compareBytes a b < 0 ↔ a < b
  | [], [] => by simp [Lib.compareBytes]
  | [], _ :: _ => by simp [Lib.compareBytes]
  | _ :: _, [] => by simp [Lib.compareBytes]
  | x :: a, y :: b => by
    unfold Lib.compareBytes
    rw [List.cons_lt_cons_iff]
    by_cases h1 : x < y
    · simp [h1]
    · by_cases h2 : y < x
      · have h3 : x ≠ y := fun e => by subst e; exact h1 h2
        simp [h1, h2, h3]
      · have h3 : x = y := UInt8.le_antisymm (UInt8.not_lt.1 h2) (UInt8.not_lt.1 h1)
        simp [h3, cmp_lt a b]
theorem cmp_eq0 : ∀ a b : List UInt8, Lib.compareBytes a b = 0 ↔ a = b
  | [], [] => by simp [Lib.compareBytes]
  | [], _ :: _ => by simp [Lib.compareBytes]
  | _ :: _, [] => by simp [Lib.compareBytes]
  | x :: a, y :: b => by
    unfold Lib.compareBytes
    rw [List.cons.injEq]
    by_cases h1 : x < y
    · have h3 : x ≠ y := fun e => by subst e; exact UInt8.lt_irrefl x h1
      simp [h1, h3]
    · by_cases h2 : y < x
      · have h3 : x ≠ y := fun e => by subst e; exact h1 h2
        simp [h1, h2, h3]
      · have h3 : x = y := UInt8.le_antisymm (UInt8.not_lt.1 h2) (UInt8.not_lt.1 h1)
        simp [h3, cmp_eq0 a b]
/-- a string's bytes -/
def kb (s : ByteArray) : List UInt8 := s.toList
theorem kb_data (s : ByteArray) : s.data.toList = kb s := (ByteArray.toList_eq s).symm
theorem kb_inj {a b : ByteArray} (h : kb a = kb b) : a = b := by
  rw [← kb_data, ← kb_data] at h
  obtain ⟨⟨x⟩⟩ := a
  obtain ⟨⟨y⟩⟩ := b
  simp at h
  rw [h]
/-- do keys rise? -/
def RiseW (l : List Wr) : Prop := ∀ i x y, l[i]? = some x → l[i + 1]? = some y → kb x.key < kb y.key
def getS (l : List Wr) (key : ByteArray) : Option Wr := l.find? fun x => kb x.key == kb key
def getV : Option Wr → Value
  | some x => .tuple #[.agg #[.string x.key, .string x.text, .bool x.gone], .bool true]
  | none => .tuple #[.agg #[.string ByteArray.empty, .string ByteArray.empty, .bool false], .bool false]
theorem getS_hit {l : List Wr} {key : ByteArray} {k : Nat} {x : Wr} (hx : l[k]? = some x) (he : kb x.key = kb key) (hno : ∀ j y, j < k → l[j]? = some y → kb y.key ≠ kb key) : getS l key = some x := by
  unfold getS
  rw [List.find?_eq_some_iff_getElem]
  obtain ⟨hk, rfl⟩ := List.getElem?_eq_some_iff.1 hx
  refine ⟨by simpa using he, k, hk, rfl, fun j hj => ?_⟩
  simpa using hno j _ hj (List.getElem?_eq_getElem (by omega))
theorem getS_miss {l : List Wr} {key : ByteArray} (hno : ∀ (j : Nat) y, l[j]? = some y → kb y.key ≠ kb key) : getS l key = none := by
  unfold getS
  rw [List.find?_eq_none]
  intro x hx
  obtain ⟨j, hj⟩ := List.mem_iff_getElem?.1 hx
  simpa using hno j x hj
end Go.Proofs.Ytdeecdebhigafaa
