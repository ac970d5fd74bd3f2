/- THE WALKS OF THE CHECK SUM's FUNCTIONS, the program's and the document's: both come to 'next'. -/
import Derived.Test.YtmhopnopdloedaaDoorRows
import Derived.Test.YtmhopnopdloedaaDoorMath
import Derived.WalkKit
import Derived.WalkSpells
import Derived.WalkLawsBesides
import Derived.Deep.QuietTactic
import Derived.BigQuiet
import Derived.Lib.Hide
import Derived.Outline
namespace Go.Proofs.YtmhopnopdloedaaDoor
open Go Go.RowKit

theorem Calls.quiet_of_eq {P : Program} {f : FuncId} {args : Array Value} {w : World} {n : Nat} {v : Value}
    (h : Calls P f args (w.drewN n) fun e w' => e = .returned v ∧ w.drewN n = w') : Calls P f args (w.drewN n) fun e w'' => e = .returned v ∧ ∃ m, w'' = w.drewN m :=
  h.mono fun _ _ ⟨he, hm⟩ => ⟨he, n, hm.symm⟩
theorem ret_int {k : IntKind} {a b : Int} (h : a = b) : Ending.returned (.int k a) = .returned (.int k b) := by rw [h]
theorem ret_bool {a b : Bool} (h : a = b) : Ending.returned (.bool a) = .returned (.bool b) := by rw [h]
/-- a slice of bytes reads as a list -/
def Bytes (w : World) (v : Value) (l : List Int) : Prop :=
  (∀ c ∈ l, 0 ≤ c ∧ c ≤ 255) ∧ l.length ≤ 140737488351232 ∧
  ((l = [] ∧ ∃ a cap, v = .slice a 0 cap) ∨ ∃ b off cap, v = .slice (some ⟨b, off, none⟩) l.length cap ∧ l.length ≤ cap ∧ ∀ j, j < l.length → w.cell? ⟨b, off + j, none⟩ = some (.int .u8 (l.getD j 0)))
/-- the table's cells -/
def Tab (w : World) : Prop := ∀ j : Nat, j < 16 → w.cell? ⟨0, j, none⟩ = some (.int .u32 (halfL.getD j 0))

theorem Bytes.drewN {w : World} {v : Value} {l : List Int} (h : Bytes w v l) (n : Nat) : Bytes (w.drewN n) v l := h
theorem Bytes.drew {w : World} {v : Value} {l : List Int} (h : Bytes w v l) : Bytes w.drew v l := h
theorem Tab.drewN {w : World} (h : Tab w) (n : Nat) : Tab (w.drewN n) := h
theorem Bytes.below {w w' : World} {v : Value} {l : List Int} (h : Bytes w v l) (hb : Below w.heap.size w w') : Bytes w' v l := by
  obtain ⟨h1, h2, h3⟩ := h
  refine ⟨h1, h2, ?_⟩
  rcases h3 with h3 | ⟨b, off, cap, hv, hlc, hc⟩
  · exact .inl h3
  · exact .inr ⟨b, off, cap, hv, hlc, fun j hj => (hb.cell (World.block_lt_of_cell? w _ (hc j hj))).trans (hc j hj)⟩
theorem Tab.below {w w' : World} (h : Tab w) (hb : Below w.heap.size w w') : Tab w' :=
  fun j hj => (hb.cell (World.block_lt_of_cell? w _ (h j hj))).trans (h j hj)

theorem byte_at {l : List Int} (h : ∀ c ∈ l, 0 ≤ c ∧ c ≤ 255) (j : Nat) (hj : j < l.length) : 0 ≤ l.getD j 0 ∧ l.getD j 0 ≤ 255 := by
  have : l.getD j 0 = l[j] := by simp [hj]
  rw [this]; exact h _ (List.getElem_mem hj)

set_option maxHeartbeats 400000 in
theorem next_row (s : Int) (b off len cap : Nat) (l : List Int) (w : World)
    (hl : l.length = len) (hm : len ≤ 140737488351232)
    (hT : Tab w) (hb : ∀ j, j < len → 0 ≤ l.getD j 0 ∧ l.getD j 0 ≤ 255)
    (hc : ∀ j, j < len → w.cell? ⟨b, off + j, none⟩ = some (.int .u8 (l.getD j 0))) :
    Calls Tryd.prog 10 #[.int .u32 s, .slice (some ⟨b, off, none⟩) len cap] w fun e w' => e = .returned (.int .u32 (next s l)) ∧ w = w' := by
  have HC := Lib.hid hc
  have HL := Lib.hid hl
  have HB := Lib.hid hb
  clear hc hl hb
  go_enter Tryd.func10, Tryd.ntmps10
  go_wp2
  go_loop [5, 12] (fun x i => ∃ k : Nat, k ≤ len ∧ i = .int .i64 k ∧ x = .int .u32 (run (inv s) (l.take k))) (fun _ i => len - (intOf i).toNat)
  case atStart => exact ⟨0, Nat.zero_le _, rfl, rfl⟩
  case round =>
    obtain ⟨k, hk, rfl, rfl⟩ := hrel
    by_cases hlt : k < len
    · have hcell := HC.out k hlt
      have ⟨hc0, hc1⟩ := HB.out k hlt
      generalize hx : run (inv s) (l.take k) = x
      have HX := Lib.hid hx
      clear hx
      generalize hcc : l.getD k 0 = c at *
      have HCC := Lib.hid hcc
      clear hcc
      have t1 : w.cell? ⟨0, (bits .and .u32 (bits .xor .u32 x c) 15).toNat, none⟩ = some (.int .u32 (tabAt (bits .xor .u32 x c))) := hT _ (and15_lt _)
      have t2 : w.cell? ⟨0, (bits .and .u32 (bits .xor .u32 (bits .xor .u32 x c / 16) (tabAt (bits .xor .u32 x c))) 15).toNat, none⟩ = some (.int .u32 (tabAt (bits .xor .u32 (bits .xor .u32 x c / 16) (tabAt (bits .xor .u32 x c))))) := hT _ (and15_lt _)
      have ⟨a0, a1⟩ := and15_bd (bits .xor .u32 x c)
      have ⟨a2, a3⟩ := and15_bd (bits .xor .u32 (bits .xor .u32 x c / 16) (tabAt (bits .xor .u32 x c)))
      go_wp2
      go_round
      case rel => exact ⟨k + 1, by omega, by go_num, by rw [run_snoc _ _ _ (by rw [HL.out]; exact hlt), HX.out, HCC.out]; rfl⟩
      case measure => simp [intOf]; omega
    · have e : k = len := by omega
      have hf : next s l = inv (run (inv s) (l.take k)) := by unfold next; rw [List.take_of_length_le (by rw [HL.out]; omega)]
      have HF := Lib.hid hf
      clear hf e
      go_wp2
      go_ret
      exact ⟨by rw [HF.out]; rfl, rfl⟩
theorem next_empty (s : Int) (a : Option Addr) (cap : Nat) (w : World) :
    Calls Tryd.prog 10 #[.int .u32 s, .slice a 0 cap] w fun e w' => e = .returned (.int .u32 (next s [])) ∧ w = w' := by
  go_enter Tryd.func10, Tryd.ntmps10
  go_wp2
  go_loop [5, 12] (fun x i => i = .int .i64 0 ∧ x = .int .u32 (inv s)) (fun _ _ => 0)
  case atStart => exact ⟨rfl, rfl⟩
  case round =>
    obtain ⟨rfl, rfl⟩ := hrel
    go_wp2
    go_ret
    exact ⟨rfl, rfl⟩
theorem next_calls (s : Int) (v : Value) (l : List Int) (w : World) (hT : Tab w) (hB : Bytes w v l) :
    Calls Tryd.prog 10 #[.int .u32 s, v] w fun e w' => e = .returned (.int .u32 (next s l)) ∧ w = w' := by
  obtain ⟨h1, h2, h3⟩ := hB
  rcases h3 with ⟨rfl, a, cap, rfl⟩ | ⟨b, off, cap, rfl, _, hc⟩
  · exact next_empty s a cap w
  · exact next_row s b off l.length cap l w rfl h2 hT (byte_at h1) hc
theorem sum_calls (v : Value) (l : List Int) (w : World) (hT : Tab w) (hB : Bytes w v l) :
    Calls Tryd.prog 12 #[v] w fun e w' => e = .returned (.int .u32 (next 0 l)) ∧ w = w' := by
  go_enter Tryd.func12, Tryd.ntmps12
  go_wp2_with (go_at_call 10; refine (next_calls _ _ l _ hT hB).mono ?_; rintro e w' ⟨rfl, rfl⟩)
  go_ret
  exact ⟨rfl, rfl⟩

/-- one bit's step, in the walk's spelling -/
def bstepI (x : Int) : Int := if x % 2 = 1 then bits .xor .u32 (x / 2) 2197175160 else x / 2
theorem bstepI_toI (x : W32) : bstepI (toI x) = toI (bstep x) := by
  unfold bstepI bstep
  have e : toI x / (2 : Int) = toI (x >>> 1) := by
    unfold toI; rw [BitVec.toNat_ushiftRight, Nat.shiftRight_eq_div_pow]; omega
  have o : (toI x % (2 : Int) = 1) ↔ x.getLsbD 0 = true := by
    unfold toI; rw [BitVec.getLsbD, Nat.testBit_zero]; simp; omega
  by_cases h : x.getLsbD 0 = true
  · rw [if_pos (o.2 h), if_pos h, e, show (2197175160 : Int) = toI 2197175160#32 from rfl, xor_toI]
  · rw [if_neg (fun k => h (o.1 k)), if_neg h, e]
theorem bsteps_snoc (n : Nat) (x : W32) : bsteps (n + 1) x = bstep (bsteps n x) := by
  rw [bsteps_add]; rfl
end Go.Proofs.YtmhopnopdloedaaDoor
