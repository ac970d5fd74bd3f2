/- NIBBLES: the document's Key. -/
import Derived.Test.YtflobafmmfigoaaNibFns
namespace Go.Proofs.Ytflobafmmfigoaa
open Go Go.RowKit

/-- bytes of pairs, the document's way -/
def pairsL : List Int → List Int
  | a :: b :: r => (a * 16 % 256 + b % 16) :: pairsL r
  | _ => []
theorem pair_val (a b : Int) (_ha : 0 ≤ a ∧ a ≤ 255) (_hb : 0 ≤ b ∧ b ≤ 255) : a * 16 % 256 + b % 16 = (a % 16) * 16 + b % 16 := by omega
theorem pairsL_key : ∀ l : List Int, Byte l → (keyL l = some (pairsL l) ∧ ofL (pairsL l) = l) ∨ (keyL l = none ∧ ofL (pairsL l) ≠ l)
  | [], _ => .inl ⟨rfl, rfl⟩
  | [a], _ => .inr ⟨rfl, by simp [pairsL, ofL]⟩
  | a :: b :: r, h => by
    have ha := h a (by simp); have hb := h b (by simp)
    have ih := pairsL_key r (fun c hc => h c (by simp [hc]))
    simp only [pairsL, keyL, ofL]
    rw [pair_val a b ha hb]
    have e1 : (a % 16 * 16 + b % 16) / 16 = a % 16 := by omega
    have e2 : (a % 16 * 16 + b % 16) % 16 = b % 16 := by omega
    rw [e1, e2]
    by_cases hab : a < 16 ∧ b < 16
    · rw [if_pos hab]
      have e3 : a % 16 = a := by omega
      have e4 : b % 16 = b := by omega
      rw [e3, e4]
      rcases ih with ⟨h1, h2⟩ | ⟨h1, h2⟩
      · left; rw [h1, h2]; exact ⟨rfl, rfl⟩
      · right; rw [h1]; exact ⟨rfl, fun e => h2 (by simpa using e)⟩
    · right
      rw [if_neg hab]
      refine ⟨rfl, fun e => hab ?_⟩
      simp only [List.cons.injEq] at e
      omega
theorem pairsL_byte : ∀ l : List Int, Byte l → Byte (pairsL l)
  | [], _ => fun c hc => by cases hc
  | [_], _ => fun c hc => by cases hc
  | a :: b :: r, h => by
    have ha := h a (by simp); have hb := h b (by simp)
    have ih := pairsL_byte r (fun c hc => h c (by simp [hc]))
    intro c hc
    simp only [pairsL, List.mem_cons] at hc
    rcases hc with rfl | hc
    · rw [pair_val a b ha hb]; omega
    · exact ih c hc
theorem pairsL_length : ∀ l : List Int, 2 * (pairsL l).length ≤ l.length
  | [] => by simp [pairsL]
  | [_] => by simp [pairsL]
  | a :: b :: r => by have := pairsL_length r; simp only [pairsL, List.length_cons]; omega
theorem strOf_append (a b : List Int) : strOfNums a ++ strOfNums b = strOfNums (a ++ b) := by
  unfold strOfNums
  rw [List.map_append, ByteArray.mk_append_mk]
theorem str_beq (a b : List Int) (ha : Byte a) (hb : Byte b) : ((strOfNums a).toList == (strOfNums b).toList) = decide (a = b) := by
  rw [ByteArray.toList_eq, ByteArray.toList_eq, Bool.eq_iff_iff, beq_iff_eq, decide_eq_true_eq]
  constructor
  · intro h
    refine (strOf_inj ha hb).1 ?_
    cases e1 : strOfNums a; cases e2 : strOfNums b
    rw [e1, e2] at h; simp at h; rw [h]
  · intro h; rw [h]
set_option maxHeartbeats 800000 in
theorem rkey_calls (v : Value) (l : List Int) (w : World) (hI : Ints .u8 w v l) (hl : l.length ≤ 100000) :
    Calls Try.prog 24 #[v] w fun e w' => e = .returned (keyV l) ∧ Below w.heap.size w w' := by
  obtain ⟨a, cap, rfl⟩ := hI.slice
  have HBD := Lib.hid hI.bd
  have HI := Lib.hid hI
  clear hI
  go_enter Try.func24, Try.ntmps24
  go_wp2
  go_loopw [4, 5] (fun v i wr => ∃ (k : Nat) (pre : List Int), 2 * k ≤ l.length + 1 ∧ i = .int .i64 (2 * (k : Int)) ∧ v = .string (strOfNums pre) ∧ Hid (pairsL l = pre ++ pairsL (l.drop (2 * k))) ∧ pre.length ≤ k ∧ Below w.heap.size w wr) (fun _ i _ => l.length + 2 - (intOf i).toNat)
  case atStart => exact ⟨0, [], Nat.zero_le _, rfl, rfl, Lib.hid (by simp), by simp, Below.refl _ _⟩
  case round =>
    obtain ⟨k, pre, hk, rfl, rfl, HP, hpl, hbw⟩ := hrel
    by_cases hlt : 2 * k + 1 < l.length
    · obtain ⟨b, off, rfl, hcs⟩ := (HI.out.below hbw).cells (by omega)
      have hc1 := hcs (2 * k) (by omega)
      have hc2 := hcs (2 * k + 1) (by omega)
      have ⟨x0, x1⟩ := at_bd HBD.out (2 * k) (by omega)
      have ⟨y0, y1⟩ := at_bd HBD.out (2 * k + 1) (by omega)
      have hst := HP.out
      rw [drop_two l k hlt] at hst
      simp only [pairsL] at hst
      have HST := Lib.hid hst
      clear hcs hst HP
      generalize l.getD (2 * k) 0 = x at *
      generalize l.getD (2 * k + 1) 0 = y at *
      go_wp2
      have e1 : x.tmod 16 = x % 16 := Int.tmod_eq_emod_of_nonneg x0
      have e2 : y.tmod 16 = y % 16 := Int.tmod_eq_emod_of_nonneg y0
      have e3 : (0 : Int) ≤ 2 * (k : Int) := by omega
      have e4 : (2 * (k : Int)).toNat = 2 * k := by omega
      have e5 : (0 : Int) ≤ 2 * (k : Int) + 1 := by omega
      have e6 : (2 * (k : Int) + 1).toNat = 2 * k + 1 := by omega
      have e7 : 2 * (k : Int) + 1 < (l.length : Int) := by omega
      have e8 : 2 * (k : Int) < (l.length : Int) := by omega
      have e9 : IntKind.i64.wrap (2 * (k : Int) + 1) = 2 * (k : Int) + 1 := IntWalk.i64_in _ (by omega)
      have hsz : (strOfNums pre).size = pre.length := strOfNums_size pre
      have hsz1 : (strOfNums [x * 16 % 256 + y % 16]).size = 1 := strOfNums_size _
      have hone : Ints .u8 ((wr.alloc (.cells #[.int .u8 (x * 16 % 256 + y % 16)] 5)).drew) (.slice (some ⟨wr.heap.size, 0, none⟩) 1 1) [x * 16 % 256 + y % 16] :=
        Ints.ofRow (l := [_]) (cap := 1) (w := (wr.alloc (.cells #[.int .u8 (x * 16 % 256 + y % 16)] 5)).drew) (heap_alloc_new wr _) (by intro q hq; rw [List.mem_singleton] at hq; subst hq; exact wf_u8 (by omega)) (by simp) (by simp) (by intro j hj; simp at hj; subst hj; rfl)
      have hcv := hone.string (P := Try.prog) (src := 43) (e := 5) (dst := 9) Try.underlying43 Try.underlying5 Try.underlying9
      clear hone
      go_region
      all_goals
        clear e1 e2 e3 e4 e5 e6 e7 e8 e9 hcv hsz hsz1
        have hb1 : Below w.heap.size w ((wr.alloc (.cells #[.int .u8 (x * 16 % 256 + y % 16)] 5)).drew) := Below.drew (hbw.alloc hbw.size _)
        go_wp2
        go_roundw
        case rel => exact ⟨k + 1, pre ++ [x * 16 % 256 + y % 16], by omega, by simp; omega, by rw [strOf_append], Lib.hid (by rw [HST.out]; simp), by simp; omega, hb1⟩
        case measure => simp [intOf]; omega
    · have hpp : pairsL l = pre := by
        rw [HP.out]
        have : pairsL (l.drop (2 * k)) = [] := by
          have hln : (l.drop (2 * k)).length ≤ 1 := by rw [List.length_drop]; omega
          match h : l.drop (2 * k), hln with
          | [], _ => rfl
          | [_], _ => rfl
        rw [this]; simp
      have hbp : Byte pre := by rw [← hpp]; exact pairsL_byte l HBD.out
      have hps := bytesOf_strOf pre hbp
      have HPS := Lib.hid hps
      have hsz : (strOfNums pre).size ≤ 100000 := by rw [strOfNums_size]; omega
      have hdec : keyV l = (if ofL pre = l then .tuple #[.string (strOfNums pre), .bool true] else .tuple #[.string ⟨#[]⟩, .bool false]) := by
        unfold keyV
        rcases pairsL_key l HBD.out with ⟨h1, h2⟩ | ⟨h1, h2⟩
        · rw [h1, hpp]; rw [hpp] at h2; rw [if_pos h2]
        · rw [h1]; rw [hpp] at h2; rw [if_neg h2]
      have HD := Lib.hid hdec
      have hq := str_beq (ofL pre) l (ofL_byte pre hbp) HBD.out
      have HQ := Lib.hid hq
      have hol : (ofL pre).length ≤ 140737488351232 := by rw [ofL_length]; omega
      clear hps hdec hq hbp
      by_cases heq : ofL pre = l
      · have hq' : ((strOfNums (ofL pre)).toList == (strOfNums l).toList) = true := by rw [HQ.out]; simpa using heq
        have hres : Hid (keyV l = .tuple #[.string (strOfNums pre), .bool true]) := by rw [HD.out, if_pos heq]; exact Lib.hid rfl
        have HEQ := Lib.hid heq
        clear heq
        have hc0 := ((HI.out.below hbw).drew).string (P := Try.prog) (src := 43) (e := 5) (dst := 9) Try.underlying43 Try.underlying5 Try.underlying9
        go_wp2
        go_region_with (go_at_call 26; refine (rof_calls _ _ hsz).mono ?_; rintro e w1 ⟨v1, rfl, ho, hb1⟩; rw [HPS.out] at ho; have hc1 := (ho.ints hol).string (P := Try.prog) (src := 43) (e := 5) (dst := 9) Try.underlying43 Try.underlying5 Try.underlying9; have hc2 := ((HI.out.below hbw).drew.below hb1).string (P := Try.prog) (src := 43) (e := 5) (dst := 9) Try.underlying43 Try.underlying5 Try.underlying9)
        all_goals
          have hbz : Below w.heap.size w w1 := below_next (Below.drew hbw) hb1
          go_wp2
          go_ret2
          exact ⟨by rw [hres.out]; rfl, hbz⟩
      · have hq' : ((strOfNums (ofL pre)).toList == (strOfNums l).toList) = false := by rw [HQ.out]; simpa using heq
        have hres : Hid (keyV l = .tuple #[.string ⟨#[]⟩, .bool false]) := by rw [HD.out, if_neg heq]; exact Lib.hid rfl
        clear heq
        have hc0 := ((HI.out.below hbw).drew).string (P := Try.prog) (src := 43) (e := 5) (dst := 9) Try.underlying43 Try.underlying5 Try.underlying9
        go_wp2
        go_region_with (go_at_call 26; refine (rof_calls _ _ hsz).mono ?_; rintro e w1 ⟨v1, rfl, ho, hb1⟩; rw [HPS.out] at ho; have hc1 := (ho.ints hol).string (P := Try.prog) (src := 43) (e := 5) (dst := 9) Try.underlying43 Try.underlying5 Try.underlying9; have hc2 := ((HI.out.below hbw).drew.below hb1).string (P := Try.prog) (src := 43) (e := 5) (dst := 9) Try.underlying43 Try.underlying5 Try.underlying9)
        all_goals
          have hbz : Below w.heap.size w w1 := below_next (Below.drew hbw) hb1
          go_wp2
          go_ret2
          exact ⟨by rw [hres.out]; rfl, hbz⟩
end Go.Proofs.Ytflobafmmfigoaa
