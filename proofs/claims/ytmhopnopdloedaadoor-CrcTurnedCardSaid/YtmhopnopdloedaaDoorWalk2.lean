/- THE WALKS OF THE DOCUMENT's CHECK SUM, and of the laws' first line. -/
import Derived.Test.YtmhopnopdloedaaDoorWalk1
import Derived.Deep.RegionWith
import Derived.Lib.SlBytesConst
namespace Go.Proofs.YtmhopnopdloedaaDoor
open Go Go.RowKit

theorem lo_eq (s : Int) : bits .xor .u32 s 4294967295 = inv s := by
  unfold inv
  rw [show IntKind.u32.max = 4294967295 from by decide]
  simp only [bits, BitVec.xor_comm]
theorem runB_snoc (x : W32) (l : List W32) (k : Nat) (h : k < l.length) : runB x (l.take (k + 1)) = byteB (runB x (l.take k)) l[k] := by
  unfold runB
  rw [List.take_succ_eq_append_getElem h, List.foldl_append]
  simp
/-- what a list of bytes is as words -/
def asW (l : List Int) : List W32 := l.map (BitVec.ofInt 32)
theorem run_asW (s : Int) (l : List Int) (h0 : 0 ≤ s) (h1 : s ≤ 4294967295) (h : ∀ c ∈ l, 0 ≤ c ∧ c ≤ 255) : run s l = toI (runB (BitVec.ofInt 32 s) (asW l)) := by
  have e := run_toI (asW l) (BitVec.ofInt 32 s)
  unfold asW at e
  rw [toI_of s h0 h1, map_toI l h] at e
  exact e
theorem inv_bd (s : Int) : 0 ≤ inv s ∧ inv s ≤ 4294967295 := by
  have h : inv s = ((BitVec.ofInt 32 IntKind.u32.max ^^^ BitVec.ofInt 32 s).toNat : Int) % 4294967296 := by
    show IntKind.u32.wrap ((BitVec.ofInt 32 IntKind.u32.max ^^^ BitVec.ofInt 32 s).toNat : Int) = _
    rw [IntKind.wrap_u32']
  rw [h]; omega
theorem run_mid (s : Int) (l : List Int) (h : ∀ c ∈ l, 0 ≤ c ∧ c ≤ 255) (k : Nat) : run (inv s) (l.take k) = toI (runB (BitVec.ofInt 32 (inv s)) (asW (l.take k))) :=
  run_asW _ _ (inv_bd s).1 (inv_bd s).2 (fun c hc => h c (List.mem_of_mem_take hc))
theorem byte_asW (x : W32) (c : Int) (h0 : 0 ≤ c) (h1 : c ≤ 255) : bits .xor .u32 (toI x) c = toI (x ^^^ BitVec.ofInt 32 c) := by
  have := xor_toI x (BitVec.ofInt 32 c)
  rw [toI_of c h0 (by omega)] at this; exact this
theorem byteStep_eight (x : W32) (c : Int) (h0 : 0 ≤ c) (h1 : c ≤ 255) : byteStep (toI x) c = toI (bsteps 8 (x ^^^ BitVec.ofInt 32 c)) := by
  have := byteStep_toI x (BitVec.ofInt 32 c)
  rw [toI_of c h0 (by omega)] at this; exact this

set_option maxHeartbeats 400000 in
theorem rnext_row (s : Int) (b off len cap : Nat) (l : List Int) (w : World)
    (hl : l.length = len) (hm : len ≤ 140737488351232) (hb : ∀ c ∈ l, 0 ≤ c ∧ c ≤ 255)
    (hc : ∀ j, j < len → w.cell? ⟨b, off + j, none⟩ = some (.int .u8 (l.getD j 0))) :
    Calls Tryd.prog 11 #[.int .u32 s, .slice (some ⟨b, off, none⟩) len cap] w fun e w' => e = .returned (.int .u32 (next s l)) ∧ w = w' := by
  have HC := Lib.hid hc
  have HL := Lib.hid hl
  have HB := Lib.hid hb
  clear hc hl hb
  go_enter Tryd.func11, Tryd.ntmps11
  go_wp2
  go_loop [5, 6] (fun x i => ∃ k : Nat, k ≤ len ∧ i = .int .i64 k ∧ x = .int .u32 (run (inv s) (l.take k))) (fun _ i => len - (intOf i).toNat)
  case atStart => exact ⟨0, Nat.zero_le _, rfl, by rw [lo_eq]; rfl⟩
  case round =>
    obtain ⟨k, hk, rfl, rfl⟩ := hrel
    by_cases hlt : k < len
    · have hcell := HC.out k hlt
      have ⟨hc0, hc1⟩ := byte_at HB.out k (by rw [HL.out]; exact hlt)
      have hx := run_mid s l HB.out k
      generalize (runB (BitVec.ofInt 32 (inv s)) (asW (l.take k))) = X at hx
      have hs : run (inv s) (l.take (k + 1)) = toI (bsteps 8 (X ^^^ BitVec.ofInt 32 (l.getD k 0))) := by
        rw [run_snoc _ _ _ (by rw [HL.out]; exact hlt), hx, byteStep_eight _ _ hc0 hc1]
      have HS := Lib.hid hs
      clear hs
      have HY := Lib.hid (byte_asW X _ hc0 hc1)
      rw [hx]
      clear hx
      generalize l.getD k 0 = c at *
      generalize (X ^^^ BitVec.ofInt 32 c) = Y at *
      go_wp2
      go_loop [5, 7] (fun x i => ∃ m : Nat, m ≤ 8 ∧ i = .int .i64 m ∧ x = .int .u32 (toI (bsteps m Y))) (fun _ i => 8 - (intOf i).toNat)
      case atStart => exact ⟨0, Nat.zero_le _, rfl, by rw [HY.out]; rfl⟩
      case round =>
        obtain ⟨m, hm', rfl, rfl⟩ := hrel
        by_cases hlt' : m < 8
        · have hst : toI (bsteps (m + 1) Y) = bstepI (toI (bsteps m Y)) := by rw [bsteps_snoc, bstepI_toI]
          have HST := Lib.hid hst
          clear hst
          have ⟨b0, b1⟩ := toI_bounds (bsteps m Y)
          generalize toI (bsteps m Y) = z at *
          by_cases ho : z % 2 = 1
          · have ho' : (z % 2 == 1) = true := by simp [ho]
            have HST2 : Hid (toI (bsteps (m + 1) Y) = bits .xor .u32 (z / 2) 2197175160) := Lib.hid (by rw [HST.out]; unfold bstepI; rw [if_pos ho])
            clear HST ho
            go_wp2
            go_round
            case rel => exact ⟨m + 1, by omega, by go_num, by rw [HST2.out]⟩
            case measure => simp [intOf]; omega
          · have ho' : (z % 2 == 1) = false := by simp [ho]
            have HST2 : Hid (toI (bsteps (m + 1) Y) = z / 2) := Lib.hid (by rw [HST.out]; unfold bstepI; rw [if_neg ho])
            clear HST ho
            go_wp2
            go_round
            case rel => exact ⟨m + 1, by omega, by go_num, by rw [HST2.out]⟩
            case measure => simp [intOf]; omega
        · obtain rfl : m = 8 := by omega
          go_wp2
          go_round
          case rel => exact ⟨k + 1, by omega, by go_num, by rw [HS.out]⟩
          case measure => simp [intOf]; omega
    · have e : k = len := by omega
      have hf : next s l = inv (run (inv s) (l.take k)) := by unfold next; rw [List.take_of_length_le (by rw [HL.out]; omega)]
      have HF := Lib.hid hf
      clear hf e
      go_wp2
      go_ret
      exact ⟨ret_int (by rw [HF.out]; exact lo_eq _), rfl⟩
theorem rnext_empty (s : Int) (a : Option Addr) (cap : Nat) (w : World) :
    Calls Tryd.prog 11 #[.int .u32 s, .slice a 0 cap] w fun e w' => e = .returned (.int .u32 (next s [])) ∧ w = w' := by
  go_enter Tryd.func11, Tryd.ntmps11
  go_wp2
  go_loop [5, 6] (fun x i => i = .int .i64 0 ∧ x = .int .u32 (inv s)) (fun _ _ => 0)
  case atStart => exact ⟨rfl, by rw [lo_eq]⟩
  case round =>
    obtain ⟨rfl, rfl⟩ := hrel
    go_wp2
    go_ret
    exact ⟨ret_int (lo_eq _), rfl⟩
theorem rnext_calls (s : Int) (v : Value) (l : List Int) (w : World) (hB : Bytes w v l) :
    Calls Tryd.prog 11 #[.int .u32 s, v] w fun e w' => e = .returned (.int .u32 (next s l)) ∧ w = w' := by
  obtain ⟨h1, h2, h3⟩ := hB
  rcases h3 with ⟨rfl, a, cap, rfl⟩ | ⟨b, off, cap, rfl, _, hc⟩
  · exact rnext_empty s a cap w
  · exact rnext_row s b off l.length cap l w rfl h2 h1 hc
theorem rsum_calls (v : Value) (l : List Int) (w : World) (hB : Bytes w v l) :
    Calls Tryd.prog 13 #[v] w fun e w' => e = .returned (.int .u32 (next 0 l)) ∧ w = w' := by
  go_enter Tryd.func13, Tryd.ntmps13
  go_wp2_with (go_at_call 11; refine (rnext_calls _ _ l _ hB).mono ?_; rintro e w' ⟨rfl, rfl⟩)
  go_ret
  exact ⟨rfl, rfl⟩

def digits : List Int := [49, 50, 51, 52, 53, 54, 55, 56, 57]
theorem next_digits : next 0 digits = 3808858755 := by decide
theorem next_nil (s : Int) (h0 : 0 ≤ s) (h1 : s ≤ 4294967295) : next s [] = s := by
  show inv (inv s) = s
  have := toI_of s h0 h1
  rw [← this, inv_toI, inv_toI, ← BitVec.xor_assoc]; simp
theorem Bytes.ofRow {w : World} {g : Nat} {C : Array Value} {t : TypeId} {fr : Nat × Nat} {l : List Int} {cap : Nat} (h : w.heap[g]? = some (.cells C t fr)) (h1 : ∀ c ∈ l, 0 ≤ c ∧ c ≤ 255) (h2 : l.length ≤ 140737488351232) (h3 : l.length ≤ cap)
    (hC : ∀ j, j < l.length → C[j]? = some (.int .u8 (l.getD j 0))) : Bytes w (.slice (some ⟨g, 0, none⟩) l.length cap) l :=
  ⟨h1, h2, .inr ⟨g, 0, cap, rfl, h3, fun j hj => by rw [Nat.zero_add, cell_of_row w g j C t fr h]; exact hC j hj⟩⟩
theorem alive_calls (w : World) (hT : Tab w) :
    Calls Tryd.prog 9 #[] w fun e w' => e = .returned (.bool true) ∧ Below w.heap.size w w' := by
  have kc := fun (w : World) (C : Array Value) (n c : Nat) => Lib.run_convert_bytes_const (P := Tryd.prog) w 23 5 C n c Tryd.underlying23 Tryd.underlying5
  have c1 : ∀ W, Below w.heap.size w W → Bytes W (.slice (some ⟨w.heap.size, 0, none⟩) 9 9) digits → Calls Tryd.prog 12 #[.slice (some ⟨w.heap.size, 0, none⟩) 9 9] W fun e w' => e = .returned (.int .u32 3808858755) ∧ W = w' := fun W hb h => by
    have := sum_calls _ _ W (hT.below hb) h
    rw [next_digits] at this; exact this
  have c2 : ∀ W, Below w.heap.size w W → Calls Tryd.prog 12 #[.slice none 0 0] W fun e w' => e = .returned (.int .u32 0) ∧ W = w' := fun W hb => by
    have := sum_calls (.slice none 0 0) [] W (hT.below hb) ⟨by simp, by simp, .inl ⟨rfl, none, 0, rfl⟩⟩
    rw [next_nil 0 (by omega) (by omega)] at this; exact this
  have hb : Below w.heap.size w (w.alloc (.cells #[.int .u8 49, .int .u8 50, .int .u8 51, .int .u8 52, .int .u8 53, .int .u8 54, .int .u8 55, .int .u8 56, .int .u8 57] 5 (9, 10))) := (Below.refl _ _).alloc (Nat.le_refl _) _
  have hB := Bytes.ofRow (l := digits) (cap := 9) (heap_alloc_new w (.cells #[.int .u8 49, .int .u8 50, .int .u8 51, .int .u8 52, .int .u8 53, .int .u8 54, .int .u8 55, .int .u8 56, .int .u8 57] 5 (9, 10))) (by decide) (by decide) (by decide) (by
    intro j hj
    have : j < 9 := hj
    rcases j with _ | _ | _ | _ | _ | _ | _ | _ | _ | j <;> first | rfl | omega)
  have C1 := Lib.hid (c1 _ hb hB)
  have C2 := Lib.hid (c2 _ hb)
  clear c1 c2 hB
  have HB := Lib.hid hb
  clear hb
  go_enter Tryd.func9, Tryd.ntmps9
  go_wp2_with (first | (go_at_call 12; refine C1.out.mono ?_; rintro e w' ⟨rfl, rfl⟩) | (go_at_call 12; refine C2.out.mono ?_; rintro e w' ⟨rfl, rfl⟩))
  go_ret
  exact ⟨rfl, HB.out⟩
end Go.Proofs.YtmhopnopdloedaaDoor
