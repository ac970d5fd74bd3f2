/- THE CHECK SUM IS LINEAR, AND ONE TO ONE: plain laws. -/
import Derived.Test.YtmhopnopdloedaaDoorByte
namespace Go.Proofs.YtmhopnopdloedaaDoor
open Go Go.RowKit

theorem byteB_xor (x y c d : W32) : byteB (x ^^^ y) (c ^^^ d) = byteB x c ^^^ byteB y d := by
  unfold byteB
  rw [← bsteps_xor]; congr 1; ac_rfl
theorem runB_diff (l : List W32) : ∀ x y : W32, runB x l ^^^ runB y l = bsteps (8 * l.length) (x ^^^ y) := by
  induction l with
  | nil => intro x y; simp [runB, bsteps]
  | cons c l ih =>
    intro x y
    have := ih (byteB x c) (byteB y c)
    simp only [runB, List.foldl_cons] at this ⊢
    rw [this, ← byteB_xor, List.length_cons, show 8 * (l.length + 1) = 8 + 8 * l.length from by omega, bsteps_add]
    unfold byteB
    simp
theorem nextB_diff (l : List W32) (x y : W32) : nextB x l ^^^ nextB y l = bsteps (8 * l.length) (x ^^^ y) := by
  unfold nextB
  rw [show 4294967295#32 ^^^ runB (4294967295#32 ^^^ x) l ^^^ (4294967295#32 ^^^ runB (4294967295#32 ^^^ y) l) = (4294967295#32 ^^^ 4294967295#32) ^^^ (runB (4294967295#32 ^^^ x) l ^^^ runB (4294967295#32 ^^^ y) l) from by ac_rfl, runB_diff]
  rw [show 4294967295#32 ^^^ x ^^^ (4294967295#32 ^^^ y) = (4294967295#32 ^^^ 4294967295#32) ^^^ (x ^^^ y) from by ac_rfl]
  simp
theorem next_bd (s : Int) (l : List Int) : 0 ≤ next s l ∧ next s l ≤ 4294967295 := inv_bd _
theorem xor_of (x y : Int) (hx : 0 ≤ x ∧ x ≤ 4294967295) (hy : 0 ≤ y ∧ y ≤ 4294967295) : bits .xor .u32 x y = toI (BitVec.ofInt 32 x ^^^ BitVec.ofInt 32 y) := by
  have := xor_toI (BitVec.ofInt 32 x) (BitVec.ofInt 32 y)
  rw [toI_of x hx.1 hx.2, toI_of y hy.1 hy.2] at this; exact this
theorem ofInt_toI (x : W32) : BitVec.ofInt 32 (toI x) = x := toI_inj (toI_of _ (toI_bounds x).1 (toI_bounds x).2)
theorem next_xor (x y : Int) (l : List Int) (hx : 0 ≤ x ∧ x ≤ 4294967295) (hy : 0 ≤ y ∧ y ≤ 4294967295) (h : ∀ c ∈ l, 0 ≤ c ∧ c ≤ 255) :
    bits .xor .u32 (next x l) (next y l) = toI (bsteps (8 * l.length) (BitVec.ofInt 32 x ^^^ BitVec.ofInt 32 y)) := by
  rw [next_asW x l hx.1 hx.2 h, next_asW y l hy.1 hy.2 h, xor_toI, nextB_diff]
  unfold asW; rw [List.length_map]
theorem next_inj (x y : Int) (l : List Int) (hx : 0 ≤ x ∧ x ≤ 4294967295) (hy : 0 ≤ y ∧ y ≤ 4294967295) (h : ∀ c ∈ l, 0 ≤ c ∧ c ≤ 255) (e : next x l = next y l) : x = y := by
  have h1 := next_xor x y l hx hy h
  rw [e] at h1
  have h2 := next_xor y y l hy hy h
  rw [h2] at h1
  have h3 := toI_inj h1
  have h4 := bsteps_inj _ h3
  have h5 : BitVec.ofInt 32 x ^^^ BitVec.ofInt 32 y = 0#32 := by rw [← h4]; simp
  have := congrArg toI (xor_null h5)
  rwa [toI_of x hx.1 hx.2, toI_of y hy.1 hy.2] at this

/-- three texts of one length, exclusive or -/
def xor3 (a b c : List Int) (n : Nat) : List Int := (List.range n).map fun i => bits .xor .u8 (bits .xor .u8 (a.getD i 0) (b.getD i 0)) (c.getD i 0)
theorem u8_xor_bd (x y : Int) : 0 ≤ bits .xor .u8 x y ∧ bits .xor .u8 x y ≤ 255 := by
  have h : bits .xor .u8 x y = ((BitVec.ofInt 8 x ^^^ BitVec.ofInt 8 y).toNat : Int) % 256 := by
    show IntKind.u8.wrap ((BitVec.ofInt 8 x ^^^ BitVec.ofInt 8 y).toNat : Int) = _
    rw [IntKind.wrap_u8']
  rw [h]; omega
theorem u8_xor_of (x y : Int) (hx : 0 ≤ x ∧ x ≤ 255) (hy : 0 ≤ y ∧ y ≤ 255) : BitVec.ofInt 32 (bits .xor .u8 x y) = BitVec.ofInt 32 x ^^^ BitVec.ofInt 32 y := by
  have e : bits .xor .u8 x y = bits .xor .u32 x y := by
    rw [u8_xor x y hx.1 (by omega) hy.1 (by omega), u32_xor x y hx.1 (by omega) hy.1 (by omega)]
  rw [e, xor_of x y (by omega) (by omega), ofInt_toI]
theorem runB_three (n : Nat) (a b c : Nat → W32) (s : W32) :
    runB s ((List.range n).map fun i => a i ^^^ b i ^^^ c i) = runB s ((List.range n).map a) ^^^ runB s ((List.range n).map b) ^^^ runB s ((List.range n).map c) := by
  induction n with
  | zero => simp [runB]
  | succ n ih =>
    simp only [List.range_succ, List.map_append, runB, List.foldl_append, List.map_cons, List.map_nil, List.foldl_cons, List.foldl_nil] at ih ⊢
    rw [ih, ← byteB_xor, ← byteB_xor]
theorem take_range (l : List Int) (n : Nat) (h : n ≤ l.length) : l.take n = (List.range n).map fun i => l.getD i 0 := by
  apply List.ext_getElem
  · simp; omega
  · intro i h1 h2; simp at h1 h2 ⊢; rw [List.getElem?_eq_getElem (by omega)]; rfl
theorem next_three (a b c : List Int) (n : Nat) (ha : n ≤ a.length) (hb : n ≤ b.length) (hc : n ≤ c.length) (ba : ∀ x ∈ a, 0 ≤ x ∧ x ≤ 255) (bb : ∀ x ∈ b, 0 ≤ x ∧ x ≤ 255) (bc : ∀ x ∈ c, 0 ≤ x ∧ x ≤ 255) :
    next 0 (xor3 a b c n) = bits .xor .u32 (bits .xor .u32 (next 0 (a.take n)) (next 0 (b.take n))) (next 0 (c.take n)) := by
  have m : ∀ {l : List Int}, (∀ x ∈ l, 0 ≤ x ∧ x ≤ 255) → ∀ x ∈ l.take n, 0 ≤ x ∧ x ≤ 255 := fun h x hx => h x (List.mem_of_mem_take hx)
  rw [next_asW 0 (a.take n) (by omega) (by omega) (m ba), next_asW 0 (b.take n) (by omega) (by omega) (m bb), next_asW 0 (c.take n) (by omega) (by omega) (m bc), xor_toI, xor_toI]
  rw [next_asW 0 (xor3 a b c n) (by omega) (by omega) (fun x hx => by
    simp only [xor3, List.mem_map] at hx
    obtain ⟨i, _, rfl⟩ := hx
    exact u8_xor_bd _ _)]
  congr 1
  have e : asW (xor3 a b c n) = (List.range n).map fun i => BitVec.ofInt 32 (a.getD i 0) ^^^ BitVec.ofInt 32 (b.getD i 0) ^^^ BitVec.ofInt 32 (c.getD i 0) := by
    unfold asW xor3
    rw [List.map_map]
    apply List.map_congr_left
    intro i hi
    have hi' : i < n := by simpa using hi
    show BitVec.ofInt 32 (bits .xor .u8 (bits .xor .u8 (a.getD i 0) (b.getD i 0)) (c.getD i 0)) = _
    rw [u8_xor_of _ _ (u8_xor_bd _ _) (byte_at bc i (by omega)), u8_xor_of _ _ (byte_at ba i (by omega)) (byte_at bb i (by omega))]
  have f : ∀ l : List Int, n ≤ l.length → asW (l.take n) = (List.range n).map fun i => BitVec.ofInt 32 (l.getD i 0) := fun l hl => by
    unfold asW; rw [take_range l n hl, List.map_map]; rfl
  unfold nextB
  rw [e, f a ha, f b hb, f c hc, runB_three]
  generalize runB _ (List.map (fun i => BitVec.ofInt 32 (a.getD i 0)) _) = x
  generalize runB _ (List.map (fun i => BitVec.ofInt 32 (b.getD i 0)) _) = y
  generalize runB _ (List.map (fun i => BitVec.ofInt 32 (c.getD i 0)) _) = z
  rw [show 4294967295#32 ^^^ x ^^^ (4294967295#32 ^^^ y) ^^^ (4294967295#32 ^^^ z) = (4294967295#32 ^^^ 4294967295#32) ^^^ (4294967295#32 ^^^ (x ^^^ y ^^^ z)) from by ac_rfl]
  simp
end Go.Proofs.YtmhopnopdloedaaDoor
