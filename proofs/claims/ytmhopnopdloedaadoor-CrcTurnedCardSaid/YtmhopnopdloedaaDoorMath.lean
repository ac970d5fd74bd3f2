/- THE PLAIN LAW OF THE CHECK SUM: the functions in the walk's own spelling, and over words of 32 bits; linear, and one to one. -/
import Derived.Laws.BitsAllLaws
namespace Go.Proofs.YtmhopnopdloedaaDoor
open Go

def halfL : List Int := [0, 274646895, 549293790, 820201905, 1098587580, 1361435347, 1640403810, 1905808397, 2197175160, 2460548119, 2722870694, 2987750089, 3280807620, 3553878443, 3811616794, 4084100981]
/-- the table at the lowest four bits -/
def tabAt (x : Int) : Int := halfL.getD (bits .and .u32 x 15).toNat 0
/-- half a byte's step -/
def nibStep (x : Int) : Int := bits .xor .u32 (x / 16) (tabAt x)
def byteStep (x c : Int) : Int := nibStep (nibStep (bits .xor .u32 x c))
def run (x : Int) (l : List Int) : Int := l.foldl byteStep x
/-- the complement -/
def inv (x : Int) : Int := bits .xor .u32 IntKind.u32.max x
def next (s : Int) (l : List Int) : Int := inv (run (inv s) l)

abbrev W32 := BitVec 32
def toI (x : W32) : Int := (x.toNat : Int)
theorem toI_bounds (x : W32) : 0 ≤ toI x ∧ toI x ≤ 4294967295 := by
  have := x.isLt; unfold toI; omega
theorem toI_of (s : Int) (h0 : 0 ≤ s) (h1 : s ≤ 4294967295) : toI (BitVec.ofInt 32 s) = s := by
  obtain ⟨n, rfl⟩ := Int.eq_ofNat_of_zero_le h0
  unfold toI
  rw [BitVec.ofInt_natCast, BitVec.toNat_ofNat]
  omega
theorem toI_inj {x y : W32} (h : toI x = toI y) : x = y := by
  unfold toI at h; exact BitVec.eq_of_toNat_eq (by omega)
theorem xor_toI (x y : W32) : bits .xor .u32 (toI x) (toI y) = toI (x ^^^ y) := by
  have hx := x.isLt; have hy := y.isLt
  unfold toI
  rw [u32_xor_nat _ _ (by omega) (by omega), BitVec.toNat_xor]
theorem and_toI (x y : W32) : bits .and .u32 (toI x) (toI y) = toI (x &&& y) := by
  have hx := x.isLt; have hy := y.isLt
  unfold toI
  rw [u32_and_nat _ _ (by omega) (by omega), BitVec.toNat_and]
theorem div16_toI (x : W32) : toI x / (16 : Int) = toI (x >>> 4) := by
  unfold toI; rw [BitVec.toNat_ushiftRight, Nat.shiftRight_eq_div_pow]; omega

/-- one bit's step -/
def bstep (x : W32) : W32 := if x.getLsbD 0 then (x >>> 1) ^^^ 2197175160#32 else x >>> 1
def bsteps : Nat → W32 → W32
  | 0, x => x
  | n + 1, x => bsteps n (bstep x)
def halfB : List W32 := [0#32, 274646895#32, 549293790#32, 820201905#32, 1098587580#32, 1361435347#32, 1640403810#32, 1905808397#32, 2197175160#32, 2460548119#32, 2722870694#32, 2987750089#32, 3280807620#32, 3553878443#32, 3811616794#32, 4084100981#32]
def nibB (x : W32) : W32 := (x >>> 4) ^^^ halfB.getD (x &&& 15#32).toNat 0#32
def byteB (x c : W32) : W32 := bsteps 8 (x ^^^ c)
def runB (x : W32) (l : List W32) : W32 := l.foldl byteB x

theorem bstep_xor (a b : W32) : bstep (a ^^^ b) = bstep a ^^^ bstep b := by
  unfold bstep
  rw [BitVec.getLsbD_xor, BitVec.ushiftRight_xor_distrib]
  cases a.getLsbD 0 <;> cases b.getLsbD 0 <;> simp
  · ac_rfl
  · ac_rfl
  · have : a >>> 1 ^^^ 2197175160#32 ^^^ (b >>> 1 ^^^ 2197175160#32) = a >>> 1 ^^^ (2197175160#32 ^^^ 2197175160#32) ^^^ b >>> 1 := by ac_rfl
    rw [this]; simp
theorem bstep_zero : bstep 0#32 = 0#32 := by decide
theorem bsteps_xor (n : Nat) : ∀ a b : W32, bsteps n (a ^^^ b) = bsteps n a ^^^ bsteps n b := by
  induction n with
  | zero => intro a b; rfl
  | succ n ih => intro a b; simp only [bsteps]; rw [bstep_xor, ih]
theorem bsteps_zero (n : Nat) : bsteps n 0#32 = 0#32 := by
  induction n with
  | zero => rfl
  | succ n ih => simp only [bsteps]; rw [bstep_zero, ih]
theorem bsteps_add (m n : Nat) : ∀ x, bsteps (m + n) x = bsteps n (bsteps m x) := by
  induction m with
  | zero => intro x; simp [bsteps]
  | succ m ih => intro x; rw [Nat.add_right_comm]; simp only [bsteps]; exact ih _
theorem bstep_null (x : W32) (h : bstep x = 0#32) : x = 0#32 := by
  unfold bstep at h
  by_cases hx : x.getLsbD 0 = true
  · rw [if_pos hx] at h
    have := congrArg (fun y : W32 => y.getLsbD 31) h
    simp only [BitVec.getLsbD_xor, BitVec.getLsbD_ushiftRight] at this
    have h2 : x.getLsbD (1 + 31) = false := BitVec.getLsbD_of_ge _ _ (by omega)
    rw [h2] at this
    exact absurd this (by decide)
  · rw [if_neg hx] at h
    apply BitVec.eq_of_getLsbD_eq
    intro i hi
    cases i with
    | zero => simpa using hx
    | succ i =>
      have := congrArg (fun y : W32 => y.getLsbD i) h
      simp only [BitVec.getLsbD_ushiftRight] at this
      rw [Nat.add_comm] at this
      simpa using this
theorem bsteps_null (n : Nat) : ∀ x, bsteps n x = 0#32 → x = 0#32 := by
  induction n with
  | zero => intro x h; exact h
  | succ n ih => intro x h; exact bstep_null x (ih _ h)
theorem xor_null {a b : W32} (h : a ^^^ b = 0#32) : a = b := by
  have : a ^^^ b ^^^ b = 0#32 ^^^ b := by rw [h]
  rw [BitVec.xor_assoc] at this; simpa using this
theorem bsteps_inj (n : Nat) {a b : W32} (h : bsteps n a = bsteps n b) : a = b := by
  apply xor_null
  apply bsteps_null n
  rw [bsteps_xor, h]; simp

/-- a word whose lowest bits are nothing is shifted alone -/
theorem bstep_shl (x : W32) (h : x.getLsbD 0 = false) : bstep x = x >>> 1 := by unfold bstep; rw [h]; rfl
theorem shr_shr (x : W32) (a b : Nat) : x >>> a >>> b = x >>> (a + b) := by rw [BitVec.shiftRight_add]
theorem bsteps_low (n : Nat) : ∀ x : W32, (∀ i, i < n → x.getLsbD i = false) → bsteps n x = x >>> n := by
  induction n with
  | zero => intro x _; simp [bsteps]
  | succ n ih =>
    intro x h
    simp only [bsteps]
    rw [bstep_shl x (h 0 (by omega)), ih, shr_shr, Nat.add_comm]
    intro i hi
    rw [BitVec.getLsbD_ushiftRight, Nat.add_comm]
    exact h _ (by omega)

theorem low_eq (x : W32) : x = ((x >>> 4) <<< 4) ^^^ (x &&& 15#32) := by
  apply BitVec.eq_of_getLsbD_eq
  intro i hi
  rw [BitVec.getLsbD_xor, BitVec.getLsbD_shiftLeft, BitVec.getLsbD_ushiftRight, BitVec.getLsbD_and]
  by_cases h4 : i < 4
  · have : (15#32).getLsbD i = true := by
      rcases i with _ | _ | _ | _ | i <;> first | decide | omega
    simp [h4, this]
  · have : (15#32).getLsbD i = false := by
      rw [show (15#32 : W32) = BitVec.ofNat 32 (2 ^ 4 - 1) from rfl, BitVec.getLsbD_ofNat, Nat.testBit_two_pow_sub_one]
      simp [h4]
    have e : 4 + (i - 4) = i := by omega
    rw [this]
    simp [h4, hi, e]
theorem nib_small : ∀ m : Fin 16, halfB.getD m.val 0#32 = bsteps 4 (BitVec.ofNat 32 m.val) := by decide
theorem and15 (x : W32) : (x &&& 15#32).toNat < 16 := by
  rw [BitVec.toNat_and]; exact Nat.lt_of_le_of_lt Nat.and_le_right (by decide)
theorem nibB_steps (x : W32) : nibB x = bsteps 4 x := by
  have h := congrArg (bsteps 4) (low_eq x)
  rw [h, bsteps_xor]
  have h1 : bsteps 4 (((x >>> 4) <<< 4 : W32)) = x >>> 4 := by
    rw [bsteps_low]
    · apply BitVec.eq_of_getLsbD_eq
      intro i hi
      rw [BitVec.getLsbD_ushiftRight, BitVec.getLsbD_shiftLeft]
      have e : 4 + i - 4 = i := by omega
      rw [e]
      by_cases h32 : 4 + i < 32
      · simp [h32]
      · have : (x >>> 4).getLsbD i = false := by rw [BitVec.getLsbD_ushiftRight]; exact BitVec.getLsbD_of_ge _ _ (by omega)
        simp [this]
    · intro i hi
      rw [BitVec.getLsbD_shiftLeft]; simp [hi]
  rw [h1]
  have h2 := nib_small ⟨(x &&& 15#32).toNat, and15 x⟩
  simp only at h2
  unfold nibB
  rw [h2]
  simp

theorem half_toI : ∀ m : Fin 16, halfL.getD m.val 0 = toI (halfB.getD m.val 0#32) := by decide
theorem tabAt_toI (x : W32) : tabAt (toI x) = toI (halfB.getD (x &&& 15#32).toNat 0#32) := by
  unfold tabAt
  rw [show (15 : Int) = toI 15#32 from rfl, and_toI]
  have h2 := half_toI ⟨(x &&& 15#32).toNat, and15 x⟩
  simp only at h2
  rw [← h2]; rfl
theorem nibStep_toI (x : W32) : nibStep (toI x) = toI (bsteps 4 x) := by
  unfold nibStep
  rw [div16_toI, tabAt_toI, xor_toI, ← nibB_steps]; rfl
theorem byteStep_toI (x c : W32) : byteStep (toI x) (toI c) = toI (byteB x c) := by
  unfold byteStep byteB
  rw [xor_toI, nibStep_toI, nibStep_toI, ← bsteps_add]
theorem run_toI (l : List W32) : ∀ x : W32, run (toI x) (l.map toI) = toI (runB x l) := by
  induction l with
  | nil => intro x; rfl
  | cons c l ih => intro x; simp only [run, runB, List.map_cons, List.foldl_cons]; rw [byteStep_toI]; exact ih _
theorem inv_toI (x : W32) : inv (toI x) = toI (4294967295#32 ^^^ x) := by
  unfold inv
  rw [show IntKind.u32.max = toI 4294967295#32 from by decide, xor_toI]
/-- the sum over words -/
def nextB (s : W32) (l : List W32) : W32 := 4294967295#32 ^^^ runB (4294967295#32 ^^^ s) l
theorem next_toI (s : W32) (l : List W32) : next (toI s) (l.map toI) = toI (nextB s l) := by
  unfold next nextB
  rw [inv_toI, run_toI, inv_toI]
theorem map_toI (l : List Int) (h : ∀ c ∈ l, 0 ≤ c ∧ c ≤ 255) : (l.map (BitVec.ofInt 32)).map toI = l := by
  rw [List.map_map]
  conv => rhs; rw [← List.map_id l]
  apply List.map_congr_left
  intro c hc
  have := h c hc
  exact toI_of c (by omega) (by omega)

theorem and15_bd (x : Int) : 0 ≤ bits .and .u32 x 15 ∧ bits .and .u32 x 15 < 16 := by
  have h : bits .and .u32 x 15 = ((BitVec.ofInt 32 x &&& BitVec.ofInt 32 15).toNat : Int) % 4294967296 := by
    show IntKind.u32.wrap ((BitVec.ofInt 32 x &&& BitVec.ofInt 32 15).toNat : Int) = _
    rw [IntKind.wrap_u32']
  rw [h]
  have : (BitVec.ofInt 32 x &&& BitVec.ofInt 32 15).toNat < 16 := by
    rw [BitVec.toNat_and]
    exact Nat.lt_of_le_of_lt Nat.and_le_right (by decide)
  omega
theorem and15_lt (x : Int) : (bits .and .u32 x 15).toNat < 16 := by
  have h : bits .and .u32 x 15 = ((BitVec.ofInt 32 x &&& BitVec.ofInt 32 15).toNat : Int) % 4294967296 := by
    show IntKind.u32.wrap ((BitVec.ofInt 32 x &&& BitVec.ofInt 32 15).toNat : Int) = _
    rw [IntKind.wrap_u32']
  rw [h]
  have : (BitVec.ofInt 32 x &&& BitVec.ofInt 32 15).toNat < 16 := by
    rw [BitVec.toNat_and]
    exact Nat.lt_of_le_of_lt Nat.and_le_right (by decide)
  omega
theorem run_snoc (x : Int) (l : List Int) (k : Nat) (h : k < l.length) : run x (l.take (k + 1)) = byteStep (run x (l.take k)) (l.getD k 0) := by
  unfold run
  rw [List.take_succ_eq_append_getElem h, List.foldl_append]
  simp [h]
end Go.Proofs.YtmhopnopdloedaaDoor
