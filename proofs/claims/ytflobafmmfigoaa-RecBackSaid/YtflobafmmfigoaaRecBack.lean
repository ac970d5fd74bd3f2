/- RecBack: THE WALK. -/
import Derived.Test.YtflobafmmfigoaaRecTurned
namespace Go.Proofs.Ytflobafmmfigoaa
open Go Go.RowKit
set_option linter.unusedSimpArgs false

theorem encL_inj {s n s2 n2 : Int} {g g2 : Bool} {t t2 : ByteArray} (h1 : recOk s g t) (h2 : recOk s2 g2 t2) : encL s n g t = encL s2 n2 g2 t2 ↔ (s = s2 ∧ n = n2 ∧ g = g2 ∧ t = t2) := by
  constructor
  · intro h
    have l8 : (encL s n g t).length = 8 := by unfold encL; rw [if_pos h1]; rfl
    have a1 : decP (encL s n g t) = some (s, n, g, t) := decP_iff l8 rfl
    have a2 : decP (encL s n g t) = some (s2, n2, g2, t2) := decP_iff l8 (by unfold encT; exact h.symm)
    rw [a1] at a2
    simp at a2
    exact a2
  · rintro ⟨rfl, rfl, rfl, rfl⟩; rfl
theorem encL_ok {s n : Int} {g : Bool} {t : ByteArray} (h : recOk s g t) : (encL s n g t).length = 8 ∧ decP (encL s n g t) = some (s, n, g, t) ∧ (encL s n g t).getD 2 0 = n := by
  have l8 : (encL s n g t).length = 8 := by unfold encL; rw [if_pos h]; rfl
  exact ⟨l8, decP_iff l8 rfl, by unfold encL; rw [if_pos h]; rfl⟩
theorem decP_ok {l : List Int} {s n : Int} {g : Bool} {t : ByteArray} (h : decP l = some (s, n, g, t)) : recOk s g t ∧ encL s n g t = l := by
  obtain ⟨h1, h2, _⟩ := decP_some h
  unfold encT at h1
  exact ⟨(encL_some h1 h2.1).1, h1⟩
theorem decP_w64 {l : List Int} {s n : Int} {g : Bool} {t : ByteArray} (h : decP l = some (s, n, g, t)) (hl : ∀ c ∈ l, (Lit.int .u64 c).wf = true) : W64 s ∧ W64 n := by
  obtain ⟨_, h2, h3⟩ := decP_some h
  unfold candP at h3
  simp at h3
  have hm : ∀ j, j < 8 → W64 (l.getD j 0) := fun j hj => by
    have hj' : j < l.length := by rw [h2.1]; exact hj
    have : l.getD j 0 = l[j] := by simp [hj']
    rw [this]; exact bd_u64 (hl _ (List.getElem_mem _))
  obtain ⟨rfl, rfl, _⟩ := h3
  have m1 := hm 1 (by omega)
  have m2 := hm 2 (by omega)
  simp at m1 m2
  exact ⟨m1, m2⟩
theorem same_b {f : FuncId} {args : Array Value} {w : World} {k : Nat} {p : Prop} [Decidable p] {b : Bool} (hb : decide p = b) (h : Calls Try.prog f args (w.drewN k) fun e w' => e = .returned (.bool (decide p)) ∧ ∃ n, w' = (w.drewN k).drewN n) :
    Calls Try.prog f args (w.drewN k) fun e w' => e = .returned (.bool b) ∧ ∃ n, w' = w.drewN n := by
  rw [hb] at h
  exact h.mono fun _ _ ⟨he, m, hm⟩ => ⟨he, k + m, by rw [hm, World.drewN_drewN]⟩
set_option maxHeartbeats 3200000 in
theorem recBack_nn (s n : Int) (g : Bool) (t : ByteArray) (s2 n2 : Int) (g2 : Bool) (t2 : ByteArray) (v : Value) (l : List Int) (w : World) (hs : W64 s) (hn : W64 n) (hs2 : W64 s2) (hn2 : W64 n2) (hI : Ints .u64 w v l) (h1 : t.size ≤ 200) (h2 : t2.size ≤ 200) (h3 : l.length ≤ 200)
    (hok1 : ¬ recOk s g t) (hok2 : ¬ recOk s2 g2 t2) :
    Calls Try.prog 4 #[.agg #[.int .u64 s, .int .u64 n, .bool g, .string t], .agg #[.int .u64 s2, .int .u64 n2, .bool g2, .string t2], v] w fun e w' => e = .returned (.bool true) ∧ Below w.heap.size w w' := by
  obtain ⟨a, cap, rfl⟩ := hI.slice
  have t1 : decide ((200 : Int) < (t.size : Int)) = false := by simp; omega
  have t2' : decide ((200 : Int) < (t2.size : Int)) = false := by simp; omega
  have t3 : decide ((200 : Int) < (l.length : Int)) = false := by simp; omega
  have HS := Lib.hid hs
  have HN := Lib.hid hn
  have HS2 := Lib.hid hs2
  have HN2 := Lib.hid hn2
  have HOK1 := Lib.hid hok1
  have HOK2 := Lib.hid hok2
  have hba := ((Below.refl w.heap.size w).alloc (Nat.le_refl _) (.cells #[.int .u64 s, .int .u64 n, .bool g, .string t] 24)).alloc (by simp) (.cells #[.int .u64 s2, .int .u64 n2, .bool g2, .string t2] 24)
  have HB0 := Lib.hid hba
  have HI0 := Lib.hid (hI.below hba)
  have HLT : Hid (w.heap.size < ((w.alloc (.cells #[.int .u64 s, .int .u64 n, .bool g, .string t] 24)).alloc (.cells #[.int .u64 s2, .int .u64 n2, .bool g2, .string t2] 24)).heap.size) := Lib.hid (by simp; omega)
  have HR0 : Hid (((w.alloc (.cells #[.int .u64 s, .int .u64 n, .bool g, .string t] 24)).alloc (.cells #[.int .u64 s2, .int .u64 n2, .bool g2, .string t2] 24)).heap[w.heap.size]? = some (.cells #[.int .u64 s, .int .u64 n, .bool g, .string t] 24 (0, 0))) := Lib.hid (blk_alloc (heap_alloc_new w _) _)
  have HQ0 : Hid (((w.alloc (.cells #[.int .u64 s, .int .u64 n, .bool g, .string t] 24)).alloc (.cells #[.int .u64 s2, .int .u64 n2, .bool g2, .string t2] 24)).heap[w.heap.size + 1]? = some (.cells #[.int .u64 s2, .int .u64 n2, .bool g2, .string t2] 24 (0, 0))) := Lib.hid (by have h := heap_alloc_new (w.alloc (.cells #[.int .u64 s, .int .u64 n, .bool g, .string t] 24)) (.cells #[.int .u64 s2, .int .u64 n2, .bool g2, .string t2] 24); rw [show (w.alloc (.cells #[.int .u64 s, .int .u64 n, .bool g, .string t] 24)).heap.size = w.heap.size + 1 from by simp] at h; exact h)
  clear hs hn hs2 hn2 hI hok1 hok2 hba
  go_enter Try.func4, Try.ntmps4
  go_wp2_with fail
  refine (ralive_calls _).mono ?_
  rintro e w1 ⟨rfl, hb1⟩
  have HR1 := Lib.hid (blk_later HR0.out hb1)
  have HQ1 := Lib.hid (blk_later HQ0.out hb1)
  have HI1 := Lib.hid (HI0.out.below hb1)
  have HB1 := Lib.hid (HB0.out.trans (hb1.mono (Nat.le_of_lt HLT.out)))
  have HLT1 : Hid (w.heap.size < w1.heap.size) := Lib.hid (Nat.lt_of_lt_of_le HLT.out hb1.size)
  have ⟨c0, c1, c2, c3⟩ := rec_cells HR1.out
  have ⟨d0, d1, d2, d3⟩ := rec_cells HQ1.out
  clear hb1
  go_wp2_with fail
  refine (enc_calls s n g t _ HS.out HN.out).mono ?_
  rintro e w2 ⟨v2, rfl, ho2, hb2⟩
  have hi2 := ho2.ints (Nat.le_trans (encL_len s n g t) (by omega))
  have HO2 := Lib.hid hi2
  have HR2 := Lib.hid (blk_later HR1.out hb2)
  have HQ2 := Lib.hid (blk_later HQ1.out hb2)
  have HI2 := Lib.hid (HI1.out.below hb2)
  have HB2 := Lib.hid (HB1.out.trans (hb2.mono (Nat.le_of_lt HLT1.out)))
  have HLT2 : Hid (w.heap.size < w2.heap.size) := Lib.hid (Nat.lt_of_lt_of_le HLT1.out hb2.size)
  clear c0 c1 c2 c3 d0 d1 d2 d3 ho2 hi2 hb2
  have ⟨d0, d1, d2, d3⟩ := rec_cells HQ2.out
  go_wp2_with fail
  refine (enc_calls s2 n2 g2 t2 _ HS2.out HN2.out).mono ?_
  rintro e w3 ⟨v3, rfl, ho3, hb3⟩
  have hi3 := ho3.ints (Nat.le_trans (encL_len s2 n2 g2 t2) (by omega))
  have HO3 := Lib.hid hi3
  have HO23 := Lib.hid (HO2.out.below hb3)
  have HR3 := Lib.hid (blk_later HR2.out hb3)
  have HQ3 := Lib.hid (blk_later HQ2.out hb3)
  have HI3 := Lib.hid (HI2.out.below hb3)
  have HB3 := Lib.hid (HB2.out.trans (hb3.mono (Nat.le_of_lt HLT2.out)))
  have HLT3 : Hid (w.heap.size < w3.heap.size) := Lib.hid (Nat.lt_of_lt_of_le HLT2.out hb3.size)
  clear d0 d1 d2 d3 ho3 hi3 hb3
  rw [decide_eq_false HOK1.out, decide_eq_false HOK2.out]
  go_wp2
  go_quiet (fail)
  have HI5 := Lib.hid (HI3.out.drewN nq)
  have HB5 := Lib.hid (below_drewN HB3.out nq)
  have HLT5 : Hid (w.heap.size < (w3.drewN nq).heap.size) := HLT3
  go_wp2_with fail
  refine (dec_calls _ _ _ HI5.out).mono ?_
  rintro e wd ⟨rfl, hbd⟩
  have HBd := Lib.hid (HB5.out.trans (hbd.mono (Nat.le_of_lt HLT5.out)))
  have HId := Lib.hid (HI5.out.below hbd)
  have HLTd : Hid (w.heap.size < wd.heap.size) := Lib.hid (Nat.lt_of_lt_of_le HLT5.out hbd.size)
  clear hbd
  cases hd : decP l with
  | none =>
    unfold decV recV
    clear hd
    go_wp2
    go_ret
    exact ⟨rfl, HBd.out.alloc (Nat.le_of_lt HLTd.out) _⟩
  | some r =>
    obtain ⟨s', n', g', t'⟩ := r
    obtain ⟨ho', he'⟩ := decP_ok hd
    obtain ⟨hs', hn'⟩ := decP_w64 hd HId.out.1
    unfold decV recV
    have HO' := Lib.hid ho'
    have HE' := Lib.hid he'
    have HS' := Lib.hid hs'
    have HN' := Lib.hid hn'
    clear hd ho' he' hs' hn'
    have hba := (Below.refl wd.heap.size wd).alloc (Nat.le_refl _) (.cells #[.int .u64 s', .int .u64 n', .bool g', .string t'] 29)
    have HIe := Lib.hid (HId.out.below hba)
    have HBe := Lib.hid (HBd.out.trans (hba.mono (Nat.le_of_lt HLTd.out)))
    have HLTe : Hid (w.heap.size < (wd.alloc (.cells #[.int .u64 s', .int .u64 n', .bool g', .string t'] 29)).heap.size) := Lib.hid (Nat.lt_of_lt_of_le HLTd.out hba.size)
    clear hba
    go_wp2_with fail
    refine (enc_calls s' n' g' t' _ HS'.out HN'.out).mono ?_
    rintro e wf ⟨vf, rfl, hof, hbf⟩
    rw [HE'.out] at hof
    rw [decide_eq_true HO'.out]
    have HOF := Lib.hid (hof.ints HIe.out.2.1)
    have HIf := Lib.hid (HIe.out.below hbf)
    have HBf := Lib.hid (HBe.out.trans (hbf.mono (Nat.le_of_lt HLTe.out)))
    clear hof hbf
    go_wp2_with (go_at_call 21; (with_reducible refine (same_calls _ _ _ _ _ HOF.out HIf.out).mono ?_); rintro e wg ⟨rfl, ng, rfl⟩; rw [decide_eq_true (p := l = l) rfl])
    go_ret
    exact ⟨rfl, below_drewN HBf.out ng⟩
set_option maxHeartbeats 3200000 in
theorem recBack_ny (s n : Int) (g : Bool) (t : ByteArray) (s2 n2 : Int) (g2 : Bool) (t2 : ByteArray) (v : Value) (l : List Int) (w : World) (hs : W64 s) (hn : W64 n) (hs2 : W64 s2) (hn2 : W64 n2) (hI : Ints .u64 w v l) (h1 : t.size ≤ 200) (h2 : t2.size ≤ 200) (h3 : l.length ≤ 200)
    (hok1 : ¬ recOk s g t) (hok2 : recOk s2 g2 t2) :
    Calls Try.prog 4 #[.agg #[.int .u64 s, .int .u64 n, .bool g, .string t], .agg #[.int .u64 s2, .int .u64 n2, .bool g2, .string t2], v] w fun e w' => e = .returned (.bool true) ∧ Below w.heap.size w w' := by
  obtain ⟨a, cap, rfl⟩ := hI.slice
  have t1 : decide ((200 : Int) < (t.size : Int)) = false := by simp; omega
  have t2' : decide ((200 : Int) < (t2.size : Int)) = false := by simp; omega
  have t3 : decide ((200 : Int) < (l.length : Int)) = false := by simp; omega
  have HS := Lib.hid hs
  have HN := Lib.hid hn
  have HS2 := Lib.hid hs2
  have HN2 := Lib.hid hn2
  have HOK1 := Lib.hid hok1
  have HOK2 := Lib.hid hok2
  have hba := ((Below.refl w.heap.size w).alloc (Nat.le_refl _) (.cells #[.int .u64 s, .int .u64 n, .bool g, .string t] 24)).alloc (by simp) (.cells #[.int .u64 s2, .int .u64 n2, .bool g2, .string t2] 24)
  have HB0 := Lib.hid hba
  have HI0 := Lib.hid (hI.below hba)
  have HLT : Hid (w.heap.size < ((w.alloc (.cells #[.int .u64 s, .int .u64 n, .bool g, .string t] 24)).alloc (.cells #[.int .u64 s2, .int .u64 n2, .bool g2, .string t2] 24)).heap.size) := Lib.hid (by simp; omega)
  have HR0 : Hid (((w.alloc (.cells #[.int .u64 s, .int .u64 n, .bool g, .string t] 24)).alloc (.cells #[.int .u64 s2, .int .u64 n2, .bool g2, .string t2] 24)).heap[w.heap.size]? = some (.cells #[.int .u64 s, .int .u64 n, .bool g, .string t] 24 (0, 0))) := Lib.hid (blk_alloc (heap_alloc_new w _) _)
  have HQ0 : Hid (((w.alloc (.cells #[.int .u64 s, .int .u64 n, .bool g, .string t] 24)).alloc (.cells #[.int .u64 s2, .int .u64 n2, .bool g2, .string t2] 24)).heap[w.heap.size + 1]? = some (.cells #[.int .u64 s2, .int .u64 n2, .bool g2, .string t2] 24 (0, 0))) := Lib.hid (by have h := heap_alloc_new (w.alloc (.cells #[.int .u64 s, .int .u64 n, .bool g, .string t] 24)) (.cells #[.int .u64 s2, .int .u64 n2, .bool g2, .string t2] 24); rw [show (w.alloc (.cells #[.int .u64 s, .int .u64 n, .bool g, .string t] 24)).heap.size = w.heap.size + 1 from by simp] at h; exact h)
  clear hs hn hs2 hn2 hI hok1 hok2 hba
  go_enter Try.func4, Try.ntmps4
  go_wp2_with fail
  refine (ralive_calls _).mono ?_
  rintro e w1 ⟨rfl, hb1⟩
  have HR1 := Lib.hid (blk_later HR0.out hb1)
  have HQ1 := Lib.hid (blk_later HQ0.out hb1)
  have HI1 := Lib.hid (HI0.out.below hb1)
  have HB1 := Lib.hid (HB0.out.trans (hb1.mono (Nat.le_of_lt HLT.out)))
  have HLT1 : Hid (w.heap.size < w1.heap.size) := Lib.hid (Nat.lt_of_lt_of_le HLT.out hb1.size)
  have ⟨c0, c1, c2, c3⟩ := rec_cells HR1.out
  have ⟨d0, d1, d2, d3⟩ := rec_cells HQ1.out
  clear hb1
  go_wp2_with fail
  refine (enc_calls s n g t _ HS.out HN.out).mono ?_
  rintro e w2 ⟨v2, rfl, ho2, hb2⟩
  have hi2 := ho2.ints (Nat.le_trans (encL_len s n g t) (by omega))
  have HO2 := Lib.hid hi2
  have HR2 := Lib.hid (blk_later HR1.out hb2)
  have HQ2 := Lib.hid (blk_later HQ1.out hb2)
  have HI2 := Lib.hid (HI1.out.below hb2)
  have HB2 := Lib.hid (HB1.out.trans (hb2.mono (Nat.le_of_lt HLT1.out)))
  have HLT2 : Hid (w.heap.size < w2.heap.size) := Lib.hid (Nat.lt_of_lt_of_le HLT1.out hb2.size)
  clear c0 c1 c2 c3 d0 d1 d2 d3 ho2 hi2 hb2
  have ⟨d0, d1, d2, d3⟩ := rec_cells HQ2.out
  go_wp2_with fail
  refine (enc_calls s2 n2 g2 t2 _ HS2.out HN2.out).mono ?_
  rintro e w3 ⟨v3, rfl, ho3, hb3⟩
  have hi3 := ho3.ints (Nat.le_trans (encL_len s2 n2 g2 t2) (by omega))
  have HO3 := Lib.hid hi3
  have HO23 := Lib.hid (HO2.out.below hb3)
  have HR3 := Lib.hid (blk_later HR2.out hb3)
  have HQ3 := Lib.hid (blk_later HQ2.out hb3)
  have HI3 := Lib.hid (HI2.out.below hb3)
  have HB3 := Lib.hid (HB2.out.trans (hb3.mono (Nat.le_of_lt HLT2.out)))
  have HLT3 : Hid (w.heap.size < w3.heap.size) := Lib.hid (Nat.lt_of_lt_of_le HLT2.out hb3.size)
  clear d0 d1 d2 d3 ho3 hi3 hb3
  rw [decide_eq_false HOK1.out, decide_eq_true HOK2.out]
  go_wp2
  go_quiet (fail)
  have HI5 := Lib.hid (HI3.out.drewN nq)
  have HB5 := Lib.hid (below_drewN HB3.out nq)
  have HLT5 : Hid (w.heap.size < (w3.drewN nq).heap.size) := HLT3
  go_wp2_with fail
  refine (dec_calls _ _ _ HI5.out).mono ?_
  rintro e wd ⟨rfl, hbd⟩
  have HBd := Lib.hid (HB5.out.trans (hbd.mono (Nat.le_of_lt HLT5.out)))
  have HId := Lib.hid (HI5.out.below hbd)
  have HLTd : Hid (w.heap.size < wd.heap.size) := Lib.hid (Nat.lt_of_lt_of_le HLT5.out hbd.size)
  clear hbd
  cases hd : decP l with
  | none =>
    unfold decV recV
    clear hd
    go_wp2
    go_ret
    exact ⟨rfl, HBd.out.alloc (Nat.le_of_lt HLTd.out) _⟩
  | some r =>
    obtain ⟨s', n', g', t'⟩ := r
    obtain ⟨ho', he'⟩ := decP_ok hd
    obtain ⟨hs', hn'⟩ := decP_w64 hd HId.out.1
    unfold decV recV
    have HO' := Lib.hid ho'
    have HE' := Lib.hid he'
    have HS' := Lib.hid hs'
    have HN' := Lib.hid hn'
    clear hd ho' he' hs' hn'
    have hba := (Below.refl wd.heap.size wd).alloc (Nat.le_refl _) (.cells #[.int .u64 s', .int .u64 n', .bool g', .string t'] 29)
    have HIe := Lib.hid (HId.out.below hba)
    have HBe := Lib.hid (HBd.out.trans (hba.mono (Nat.le_of_lt HLTd.out)))
    have HLTe : Hid (w.heap.size < (wd.alloc (.cells #[.int .u64 s', .int .u64 n', .bool g', .string t'] 29)).heap.size) := Lib.hid (Nat.lt_of_lt_of_le HLTd.out hba.size)
    clear hba
    go_wp2_with fail
    refine (enc_calls s' n' g' t' _ HS'.out HN'.out).mono ?_
    rintro e wf ⟨vf, rfl, hof, hbf⟩
    rw [HE'.out] at hof
    rw [decide_eq_true HO'.out]
    have HOF := Lib.hid (hof.ints HIe.out.2.1)
    have HIf := Lib.hid (HIe.out.below hbf)
    have HBf := Lib.hid (HBe.out.trans (hbf.mono (Nat.le_of_lt HLTe.out)))
    clear hof hbf
    go_wp2_with (go_at_call 21; (with_reducible refine (same_calls _ _ _ _ _ HOF.out HIf.out).mono ?_); rintro e wg ⟨rfl, ng, rfl⟩; rw [decide_eq_true (p := l = l) rfl])
    go_ret
    exact ⟨rfl, below_drewN HBf.out ng⟩
set_option maxHeartbeats 3200000 in
theorem recBack_yn (s n : Int) (g : Bool) (t : ByteArray) (s2 n2 : Int) (g2 : Bool) (t2 : ByteArray) (v : Value) (l : List Int) (w : World) (hs : W64 s) (hn : W64 n) (hs2 : W64 s2) (hn2 : W64 n2) (hI : Ints .u64 w v l) (h1 : t.size ≤ 200) (h2 : t2.size ≤ 200) (h3 : l.length ≤ 200)
    (hok1 : recOk s g t) (hok2 : ¬ recOk s2 g2 t2) :
    Calls Try.prog 4 #[.agg #[.int .u64 s, .int .u64 n, .bool g, .string t], .agg #[.int .u64 s2, .int .u64 n2, .bool g2, .string t2], v] w fun e w' => e = .returned (.bool true) ∧ Below w.heap.size w w' := by
  obtain ⟨a, cap, rfl⟩ := hI.slice
  have t1 : decide ((200 : Int) < (t.size : Int)) = false := by simp; omega
  have t2' : decide ((200 : Int) < (t2.size : Int)) = false := by simp; omega
  have t3 : decide ((200 : Int) < (l.length : Int)) = false := by simp; omega
  have HS := Lib.hid hs
  have HN := Lib.hid hn
  have HS2 := Lib.hid hs2
  have HN2 := Lib.hid hn2
  have HOK1 := Lib.hid hok1
  have HOK2 := Lib.hid hok2
  have hba := ((Below.refl w.heap.size w).alloc (Nat.le_refl _) (.cells #[.int .u64 s, .int .u64 n, .bool g, .string t] 24)).alloc (by simp) (.cells #[.int .u64 s2, .int .u64 n2, .bool g2, .string t2] 24)
  have HB0 := Lib.hid hba
  have HI0 := Lib.hid (hI.below hba)
  have HLT : Hid (w.heap.size < ((w.alloc (.cells #[.int .u64 s, .int .u64 n, .bool g, .string t] 24)).alloc (.cells #[.int .u64 s2, .int .u64 n2, .bool g2, .string t2] 24)).heap.size) := Lib.hid (by simp; omega)
  have HR0 : Hid (((w.alloc (.cells #[.int .u64 s, .int .u64 n, .bool g, .string t] 24)).alloc (.cells #[.int .u64 s2, .int .u64 n2, .bool g2, .string t2] 24)).heap[w.heap.size]? = some (.cells #[.int .u64 s, .int .u64 n, .bool g, .string t] 24 (0, 0))) := Lib.hid (blk_alloc (heap_alloc_new w _) _)
  have HQ0 : Hid (((w.alloc (.cells #[.int .u64 s, .int .u64 n, .bool g, .string t] 24)).alloc (.cells #[.int .u64 s2, .int .u64 n2, .bool g2, .string t2] 24)).heap[w.heap.size + 1]? = some (.cells #[.int .u64 s2, .int .u64 n2, .bool g2, .string t2] 24 (0, 0))) := Lib.hid (by have h := heap_alloc_new (w.alloc (.cells #[.int .u64 s, .int .u64 n, .bool g, .string t] 24)) (.cells #[.int .u64 s2, .int .u64 n2, .bool g2, .string t2] 24); rw [show (w.alloc (.cells #[.int .u64 s, .int .u64 n, .bool g, .string t] 24)).heap.size = w.heap.size + 1 from by simp] at h; exact h)
  clear hs hn hs2 hn2 hI hok1 hok2 hba
  go_enter Try.func4, Try.ntmps4
  go_wp2_with fail
  refine (ralive_calls _).mono ?_
  rintro e w1 ⟨rfl, hb1⟩
  have HR1 := Lib.hid (blk_later HR0.out hb1)
  have HQ1 := Lib.hid (blk_later HQ0.out hb1)
  have HI1 := Lib.hid (HI0.out.below hb1)
  have HB1 := Lib.hid (HB0.out.trans (hb1.mono (Nat.le_of_lt HLT.out)))
  have HLT1 : Hid (w.heap.size < w1.heap.size) := Lib.hid (Nat.lt_of_lt_of_le HLT.out hb1.size)
  have ⟨c0, c1, c2, c3⟩ := rec_cells HR1.out
  have ⟨d0, d1, d2, d3⟩ := rec_cells HQ1.out
  clear hb1
  go_wp2_with fail
  refine (enc_calls s n g t _ HS.out HN.out).mono ?_
  rintro e w2 ⟨v2, rfl, ho2, hb2⟩
  have hi2 := ho2.ints (Nat.le_trans (encL_len s n g t) (by omega))
  have HO2 := Lib.hid hi2
  have HR2 := Lib.hid (blk_later HR1.out hb2)
  have HQ2 := Lib.hid (blk_later HQ1.out hb2)
  have HI2 := Lib.hid (HI1.out.below hb2)
  have HB2 := Lib.hid (HB1.out.trans (hb2.mono (Nat.le_of_lt HLT1.out)))
  have HLT2 : Hid (w.heap.size < w2.heap.size) := Lib.hid (Nat.lt_of_lt_of_le HLT1.out hb2.size)
  clear c0 c1 c2 c3 d0 d1 d2 d3 ho2 hi2 hb2
  have ⟨d0, d1, d2, d3⟩ := rec_cells HQ2.out
  go_wp2_with fail
  refine (enc_calls s2 n2 g2 t2 _ HS2.out HN2.out).mono ?_
  rintro e w3 ⟨v3, rfl, ho3, hb3⟩
  have hi3 := ho3.ints (Nat.le_trans (encL_len s2 n2 g2 t2) (by omega))
  have HO3 := Lib.hid hi3
  have HO23 := Lib.hid (HO2.out.below hb3)
  have HR3 := Lib.hid (blk_later HR2.out hb3)
  have HQ3 := Lib.hid (blk_later HQ2.out hb3)
  have HI3 := Lib.hid (HI2.out.below hb3)
  have HB3 := Lib.hid (HB2.out.trans (hb3.mono (Nat.le_of_lt HLT2.out)))
  have HLT3 : Hid (w.heap.size < w3.heap.size) := Lib.hid (Nat.lt_of_lt_of_le HLT2.out hb3.size)
  clear d0 d1 d2 d3 ho3 hi3 hb3
  rw [decide_eq_true HOK1.out, decide_eq_false HOK2.out]
  obtain ⟨l8, hdec, hnx⟩ := encL_ok (n := n) HOK1.out
  have HDEC := Lib.hid hdec
  have HL8 := Lib.hid l8
  have HNX := Lib.hid hnx
  clear l8 hdec hnx
  obtain ⟨a2, cc2, rfl⟩ := HO23.out.slice
  go_wp2_with fail
  refine (dec_calls _ _ _ HO23.out).mono ?_
  rintro e w4 ⟨rfl, hb4⟩
  rw [HDEC.out]
  unfold decV recV
  have hb4a := hb4.alloc hb4.size (.cells #[.int .u64 s, .int .u64 n, .bool g, .string t] 29)
  have HO24 := Lib.hid (HO23.out.below hb4a)
  have HO34 := Lib.hid (HO3.out.below hb4a)
  have HR4 := Lib.hid (blk_later HR3.out hb4a)
  have HQ4 := Lib.hid (blk_later HQ3.out hb4a)
  have HI4 := Lib.hid (HI3.out.below hb4a)
  have HB4 := Lib.hid (HB3.out.trans (hb4a.mono (Nat.le_of_lt HLT3.out)))
  have HLT4 : Hid (w.heap.size < (w4.alloc (.cells #[.int .u64 s, .int .u64 n, .bool g, .string t] 29)).heap.size) := Lib.hid (Nat.lt_of_lt_of_le HLT3.out hb4a.size)
  have HX4 : Hid ((w4.alloc (.cells #[.int .u64 s, .int .u64 n, .bool g, .string t] 29)).heap[w4.heap.size]? = some (.cells #[.int .u64 s, .int .u64 n, .bool g, .string t] 29 (0, 0))) := Lib.hid (heap_alloc_new w4 _)
  clear hb4 hb4a
  have ⟨c0, c1, c2, c3⟩ := rec_cells HR4.out
  obtain ⟨b2, o2, rfl, hc2⟩ := HO24.out.cells (by rw [HL8.out]; omega)
  have m2 := hc2 2 (by rw [HL8.out]; omega)
  rw [HNX.out] at m2
  have hcp2 := HO24.out.cap_le
  rw [HL8.out] at hcp2
  rw [HL8.out]
  clear hc2
  go_wp2
  go_quiet (fail)
  have HI5 := Lib.hid (HI4.out.drewN nq)
  have HB5 := Lib.hid (below_drewN HB4.out nq)
  have HLT5 : Hid (w.heap.size < ((w4.alloc (.cells #[.int .u64 s, .int .u64 n, .bool g, .string t] 29)).drewN nq).heap.size) := HLT4
  have HO25 := Lib.hid (HO24.out.drewN nq)
  have HO35 := Lib.hid (HO34.out.drewN nq)
  have HR5 : Hid (((w4.alloc (.cells #[.int .u64 s, .int .u64 n, .bool g, .string t] 29)).drewN nq).heap[w.heap.size]? = some (.cells #[.int .u64 s, .int .u64 n, .bool g, .string t] 24 (0, 0))) := HR4
  have HQ5 : Hid (((w4.alloc (.cells #[.int .u64 s, .int .u64 n, .bool g, .string t] 29)).drewN nq).heap[w.heap.size + 1]? = some (.cells #[.int .u64 s2, .int .u64 n2, .bool g2, .string t2] 24 (0, 0))) := HQ4
  rw [HL8.out] at HO25
  clear c0 c1 c2 c3 m2 hcp2 HI4 HB4 HLT4 HO24 HO34 HR4 HQ4 HX4
  generalize ((w4.alloc (.cells #[.int .u64 s, .int .u64 n, .bool g, .string t] 29)).drewN nq) = W5 at *
  go_wp2
  go_quiet (fail)
  have HI6 := Lib.hid (HI5.out.drewN nq)
  have HB6 := Lib.hid (below_drewN HB5.out nq)
  have HLT6 : Hid (w.heap.size < (W5.drewN nq).heap.size) := HLT5
  go_wp2_with fail
  refine (dec_calls _ _ _ HI6.out).mono ?_
  rintro e wd ⟨rfl, hbd⟩
  have HBd := Lib.hid (HB6.out.trans (hbd.mono (Nat.le_of_lt HLT6.out)))
  have HId := Lib.hid (HI6.out.below hbd)
  have HLTd : Hid (w.heap.size < wd.heap.size) := Lib.hid (Nat.lt_of_lt_of_le HLT6.out hbd.size)
  clear hbd
  cases hd : decP l with
  | none =>
    unfold decV recV
    clear hd
    go_wp2
    go_ret
    exact ⟨rfl, HBd.out.alloc (Nat.le_of_lt HLTd.out) _⟩
  | some r =>
    obtain ⟨s', n', g', t'⟩ := r
    obtain ⟨ho', he'⟩ := decP_ok hd
    obtain ⟨hs', hn'⟩ := decP_w64 hd HId.out.1
    unfold decV recV
    have HO' := Lib.hid ho'
    have HE' := Lib.hid he'
    have HS' := Lib.hid hs'
    have HN' := Lib.hid hn'
    clear hd ho' he' hs' hn'
    have hba := (Below.refl wd.heap.size wd).alloc (Nat.le_refl _) (.cells #[.int .u64 s', .int .u64 n', .bool g', .string t'] 29)
    have HIe := Lib.hid (HId.out.below hba)
    have HBe := Lib.hid (HBd.out.trans (hba.mono (Nat.le_of_lt HLTd.out)))
    have HLTe : Hid (w.heap.size < (wd.alloc (.cells #[.int .u64 s', .int .u64 n', .bool g', .string t'] 29)).heap.size) := Lib.hid (Nat.lt_of_lt_of_le HLTd.out hba.size)
    clear hba
    go_wp2_with fail
    refine (enc_calls s' n' g' t' _ HS'.out HN'.out).mono ?_
    rintro e wf ⟨vf, rfl, hof, hbf⟩
    rw [HE'.out] at hof
    rw [decide_eq_true HO'.out]
    have HOF := Lib.hid (hof.ints HIe.out.2.1)
    have HIf := Lib.hid (HIe.out.below hbf)
    have HBf := Lib.hid (HBe.out.trans (hbf.mono (Nat.le_of_lt HLTe.out)))
    clear hof hbf
    go_wp2_with (go_at_call 21; (with_reducible refine (same_calls _ _ _ _ _ HOF.out HIf.out).mono ?_); rintro e wg ⟨rfl, ng, rfl⟩; rw [decide_eq_true (p := l = l) rfl])
    go_ret
    exact ⟨rfl, below_drewN HBf.out ng⟩
set_option maxHeartbeats 3200000 in
theorem recBack_yy (s n : Int) (g : Bool) (t : ByteArray) (s2 n2 : Int) (g2 : Bool) (t2 : ByteArray) (v : Value) (l : List Int) (w : World) (hs : W64 s) (hn : W64 n) (hs2 : W64 s2) (hn2 : W64 n2) (hI : Ints .u64 w v l) (h1 : t.size ≤ 200) (h2 : t2.size ≤ 200) (h3 : l.length ≤ 200)
    (hok1 : recOk s g t) (hok2 : recOk s2 g2 t2) (b : Bool) (hq : ∀ W, (binOp .eql 24 (.agg #[.int .u64 s, .int .u64 n, .bool g, .string t]) (.agg #[.int .u64 s2, .int .u64 n2, .bool g2, .string t2])).run Try.prog W = .ok (.bool b) W) (hb : decide (encL s n g t = encL s2 n2 g2 t2) = b) :
    Calls Try.prog 4 #[.agg #[.int .u64 s, .int .u64 n, .bool g, .string t], .agg #[.int .u64 s2, .int .u64 n2, .bool g2, .string t2], v] w fun e w' => e = .returned (.bool true) ∧ Below w.heap.size w w' := by
  obtain ⟨a, cap, rfl⟩ := hI.slice
  have t1 : decide ((200 : Int) < (t.size : Int)) = false := by simp; omega
  have t2' : decide ((200 : Int) < (t2.size : Int)) = false := by simp; omega
  have t3 : decide ((200 : Int) < (l.length : Int)) = false := by simp; omega
  have HS := Lib.hid hs
  have HN := Lib.hid hn
  have HS2 := Lib.hid hs2
  have HN2 := Lib.hid hn2
  have HOK1 := Lib.hid hok1
  have HB := Lib.hid hb
  clear hb
  have HOK2 := Lib.hid hok2
  have hba := ((Below.refl w.heap.size w).alloc (Nat.le_refl _) (.cells #[.int .u64 s, .int .u64 n, .bool g, .string t] 24)).alloc (by simp) (.cells #[.int .u64 s2, .int .u64 n2, .bool g2, .string t2] 24)
  have HB0 := Lib.hid hba
  have HI0 := Lib.hid (hI.below hba)
  have HLT : Hid (w.heap.size < ((w.alloc (.cells #[.int .u64 s, .int .u64 n, .bool g, .string t] 24)).alloc (.cells #[.int .u64 s2, .int .u64 n2, .bool g2, .string t2] 24)).heap.size) := Lib.hid (by simp; omega)
  have HR0 : Hid (((w.alloc (.cells #[.int .u64 s, .int .u64 n, .bool g, .string t] 24)).alloc (.cells #[.int .u64 s2, .int .u64 n2, .bool g2, .string t2] 24)).heap[w.heap.size]? = some (.cells #[.int .u64 s, .int .u64 n, .bool g, .string t] 24 (0, 0))) := Lib.hid (blk_alloc (heap_alloc_new w _) _)
  have HQ0 : Hid (((w.alloc (.cells #[.int .u64 s, .int .u64 n, .bool g, .string t] 24)).alloc (.cells #[.int .u64 s2, .int .u64 n2, .bool g2, .string t2] 24)).heap[w.heap.size + 1]? = some (.cells #[.int .u64 s2, .int .u64 n2, .bool g2, .string t2] 24 (0, 0))) := Lib.hid (by have h := heap_alloc_new (w.alloc (.cells #[.int .u64 s, .int .u64 n, .bool g, .string t] 24)) (.cells #[.int .u64 s2, .int .u64 n2, .bool g2, .string t2] 24); rw [show (w.alloc (.cells #[.int .u64 s, .int .u64 n, .bool g, .string t] 24)).heap.size = w.heap.size + 1 from by simp] at h; exact h)
  clear hs hn hs2 hn2 hI hok1 hok2 hba
  go_enter Try.func4, Try.ntmps4
  go_wp2_with fail
  refine (ralive_calls _).mono ?_
  rintro e w1 ⟨rfl, hb1⟩
  have HR1 := Lib.hid (blk_later HR0.out hb1)
  have HQ1 := Lib.hid (blk_later HQ0.out hb1)
  have HI1 := Lib.hid (HI0.out.below hb1)
  have HB1 := Lib.hid (HB0.out.trans (hb1.mono (Nat.le_of_lt HLT.out)))
  have HLT1 : Hid (w.heap.size < w1.heap.size) := Lib.hid (Nat.lt_of_lt_of_le HLT.out hb1.size)
  have ⟨c0, c1, c2, c3⟩ := rec_cells HR1.out
  have ⟨d0, d1, d2, d3⟩ := rec_cells HQ1.out
  clear hb1
  go_wp2_with fail
  refine (enc_calls s n g t _ HS.out HN.out).mono ?_
  rintro e w2 ⟨v2, rfl, ho2, hb2⟩
  have hi2 := ho2.ints (Nat.le_trans (encL_len s n g t) (by omega))
  have HO2 := Lib.hid hi2
  have HR2 := Lib.hid (blk_later HR1.out hb2)
  have HQ2 := Lib.hid (blk_later HQ1.out hb2)
  have HI2 := Lib.hid (HI1.out.below hb2)
  have HB2 := Lib.hid (HB1.out.trans (hb2.mono (Nat.le_of_lt HLT1.out)))
  have HLT2 : Hid (w.heap.size < w2.heap.size) := Lib.hid (Nat.lt_of_lt_of_le HLT1.out hb2.size)
  clear c0 c1 c2 c3 d0 d1 d2 d3 ho2 hi2 hb2
  have ⟨d0, d1, d2, d3⟩ := rec_cells HQ2.out
  go_wp2_with fail
  refine (enc_calls s2 n2 g2 t2 _ HS2.out HN2.out).mono ?_
  rintro e w3 ⟨v3, rfl, ho3, hb3⟩
  have hi3 := ho3.ints (Nat.le_trans (encL_len s2 n2 g2 t2) (by omega))
  have HO3 := Lib.hid hi3
  have HO23 := Lib.hid (HO2.out.below hb3)
  have HR3 := Lib.hid (blk_later HR2.out hb3)
  have HQ3 := Lib.hid (blk_later HQ2.out hb3)
  have HI3 := Lib.hid (HI2.out.below hb3)
  have HB3 := Lib.hid (HB2.out.trans (hb3.mono (Nat.le_of_lt HLT2.out)))
  have HLT3 : Hid (w.heap.size < w3.heap.size) := Lib.hid (Nat.lt_of_lt_of_le HLT2.out hb3.size)
  clear d0 d1 d2 d3 ho3 hi3 hb3
  rw [decide_eq_true HOK1.out, decide_eq_true HOK2.out]
  obtain ⟨l8, hdec, hnx⟩ := encL_ok (n := n) HOK1.out
  have HDEC := Lib.hid hdec
  have HL8 := Lib.hid l8
  have HNX := Lib.hid hnx
  clear l8 hdec hnx
  obtain ⟨a2, cc2, rfl⟩ := HO23.out.slice
  go_wp2_with fail
  refine (dec_calls _ _ _ HO23.out).mono ?_
  rintro e w4 ⟨rfl, hb4⟩
  rw [HDEC.out]
  unfold decV recV
  have hb4a := hb4.alloc hb4.size (.cells #[.int .u64 s, .int .u64 n, .bool g, .string t] 29)
  have HO24 := Lib.hid (HO23.out.below hb4a)
  have HO34 := Lib.hid (HO3.out.below hb4a)
  have HR4 := Lib.hid (blk_later HR3.out hb4a)
  have HQ4 := Lib.hid (blk_later HQ3.out hb4a)
  have HI4 := Lib.hid (HI3.out.below hb4a)
  have HB4 := Lib.hid (HB3.out.trans (hb4a.mono (Nat.le_of_lt HLT3.out)))
  have HLT4 : Hid (w.heap.size < (w4.alloc (.cells #[.int .u64 s, .int .u64 n, .bool g, .string t] 29)).heap.size) := Lib.hid (Nat.lt_of_lt_of_le HLT3.out hb4a.size)
  have HX4 : Hid ((w4.alloc (.cells #[.int .u64 s, .int .u64 n, .bool g, .string t] 29)).heap[w4.heap.size]? = some (.cells #[.int .u64 s, .int .u64 n, .bool g, .string t] 29 (0, 0))) := Lib.hid (heap_alloc_new w4 _)
  clear hb4 hb4a
  have ⟨c0, c1, c2, c3⟩ := rec_cells HR4.out
  obtain ⟨b2, o2, rfl, hc2⟩ := HO24.out.cells (by rw [HL8.out]; omega)
  have m2 := hc2 2 (by rw [HL8.out]; omega)
  rw [HNX.out] at m2
  have hcp2 := HO24.out.cap_le
  rw [HL8.out] at hcp2
  rw [HL8.out]
  clear hc2
  go_wp2
  go_quiet (fail)
  have HI5 := Lib.hid (HI4.out.drewN nq)
  have HB5 := Lib.hid (below_drewN HB4.out nq)
  have HLT5 : Hid (w.heap.size < ((w4.alloc (.cells #[.int .u64 s, .int .u64 n, .bool g, .string t] 29)).drewN nq).heap.size) := HLT4
  have HO25 := Lib.hid (HO24.out.drewN nq)
  have HO35 := Lib.hid (HO34.out.drewN nq)
  have HR5 : Hid (((w4.alloc (.cells #[.int .u64 s, .int .u64 n, .bool g, .string t] 29)).drewN nq).heap[w.heap.size]? = some (.cells #[.int .u64 s, .int .u64 n, .bool g, .string t] 24 (0, 0))) := HR4
  have HQ5 : Hid (((w4.alloc (.cells #[.int .u64 s, .int .u64 n, .bool g, .string t] 29)).drewN nq).heap[w.heap.size + 1]? = some (.cells #[.int .u64 s2, .int .u64 n2, .bool g2, .string t2] 24 (0, 0))) := HQ4
  rw [HL8.out] at HO25
  clear c0 c1 c2 c3 m2 hcp2 HI4 HB4 HLT4 HO24 HO34 HR4 HQ4 HX4
  generalize ((w4.alloc (.cells #[.int .u64 s, .int .u64 n, .bool g, .string t] 29)).drewN nq) = W5 at *
  have ⟨c0, c1, c2, c3⟩ := rec_cells HR5.out
  have ⟨e0, e1, e2, e3⟩ := rec_cells HQ5.out
  go_wp2
  go_quiet ((go_at_call 21; exact same_b HB.out (same_calls _ _ (encL s n g t) (encL s2 n2 g2 t2) _ (HO25.out.drewN _) (HO35.out.drewN _))))
  have HI6 := Lib.hid (HI5.out.drewN nq)
  have HB6 := Lib.hid (below_drewN HB5.out nq)
  have HLT6 : Hid (w.heap.size < (W5.drewN nq).heap.size) := HLT5
  clear c0 c1 c2 c3 e0 e1 e2 e3 hq
  go_wp2_with fail
  refine (dec_calls _ _ _ HI6.out).mono ?_
  rintro e wd ⟨rfl, hbd⟩
  have HBd := Lib.hid (HB6.out.trans (hbd.mono (Nat.le_of_lt HLT6.out)))
  have HId := Lib.hid (HI6.out.below hbd)
  have HLTd : Hid (w.heap.size < wd.heap.size) := Lib.hid (Nat.lt_of_lt_of_le HLT6.out hbd.size)
  clear hbd
  cases hd : decP l with
  | none =>
    unfold decV recV
    clear hd
    go_wp2
    go_ret
    exact ⟨rfl, HBd.out.alloc (Nat.le_of_lt HLTd.out) _⟩
  | some r =>
    obtain ⟨s', n', g', t'⟩ := r
    obtain ⟨ho', he'⟩ := decP_ok hd
    obtain ⟨hs', hn'⟩ := decP_w64 hd HId.out.1
    unfold decV recV
    have HO' := Lib.hid ho'
    have HE' := Lib.hid he'
    have HS' := Lib.hid hs'
    have HN' := Lib.hid hn'
    clear hd ho' he' hs' hn'
    have hba := (Below.refl wd.heap.size wd).alloc (Nat.le_refl _) (.cells #[.int .u64 s', .int .u64 n', .bool g', .string t'] 29)
    have HIe := Lib.hid (HId.out.below hba)
    have HBe := Lib.hid (HBd.out.trans (hba.mono (Nat.le_of_lt HLTd.out)))
    have HLTe : Hid (w.heap.size < (wd.alloc (.cells #[.int .u64 s', .int .u64 n', .bool g', .string t'] 29)).heap.size) := Lib.hid (Nat.lt_of_lt_of_le HLTd.out hba.size)
    clear hba
    go_wp2_with fail
    refine (enc_calls s' n' g' t' _ HS'.out HN'.out).mono ?_
    rintro e wf ⟨vf, rfl, hof, hbf⟩
    rw [HE'.out] at hof
    rw [decide_eq_true HO'.out]
    have HOF := Lib.hid (hof.ints HIe.out.2.1)
    have HIf := Lib.hid (HIe.out.below hbf)
    have HBf := Lib.hid (HBe.out.trans (hbf.mono (Nat.le_of_lt HLTe.out)))
    clear hof hbf
    go_wp2_with (go_at_call 21; (with_reducible refine (same_calls _ _ _ _ _ HOF.out HIf.out).mono ?_); rintro e wg ⟨rfl, ng, rfl⟩; rw [decide_eq_true (p := l = l) rfl])
    go_ret
    exact ⟨rfl, below_drewN HBf.out ng⟩
set_option maxHeartbeats 1600000 in
theorem recBack_out (s n : Int) (g : Bool) (t : ByteArray) (s2 n2 : Int) (g2 : Bool) (t2 : ByteArray) (v : Value) (l : List Int) (w : World) (hI : Ints .u64 w v l) (h : 200 < t.size ∨ t.size ≤ 200 ∧ 200 < t2.size ∨ t.size ≤ 200 ∧ t2.size ≤ 200 ∧ 200 < l.length) :
    Calls Try.prog 4 #[.agg #[.int .u64 s, .int .u64 n, .bool g, .string t], .agg #[.int .u64 s2, .int .u64 n2, .bool g2, .string t2], v] w fun e w' => e = .returned (.bool true) ∧ Below w.heap.size w w' := by
  obtain ⟨a, cap, rfl⟩ := hI.slice
  have hba := ((Below.refl w.heap.size w).alloc (Nat.le_refl _) (.cells #[.int .u64 s, .int .u64 n, .bool g, .string t] 24)).alloc (by simp) (.cells #[.int .u64 s2, .int .u64 n2, .bool g2, .string t2] 24)
  have HB0 := Lib.hid hba
  have HLT : Hid (w.heap.size < ((w.alloc (.cells #[.int .u64 s, .int .u64 n, .bool g, .string t] 24)).alloc (.cells #[.int .u64 s2, .int .u64 n2, .bool g2, .string t2] 24)).heap.size) := Lib.hid (by simp; omega)
  have HR0 : Hid (((w.alloc (.cells #[.int .u64 s, .int .u64 n, .bool g, .string t] 24)).alloc (.cells #[.int .u64 s2, .int .u64 n2, .bool g2, .string t2] 24)).heap[w.heap.size]? = some (.cells #[.int .u64 s, .int .u64 n, .bool g, .string t] 24 (0, 0))) := Lib.hid (blk_alloc (heap_alloc_new w _) _)
  have HQ0 : Hid (((w.alloc (.cells #[.int .u64 s, .int .u64 n, .bool g, .string t] 24)).alloc (.cells #[.int .u64 s2, .int .u64 n2, .bool g2, .string t2] 24)).heap[w.heap.size + 1]? = some (.cells #[.int .u64 s2, .int .u64 n2, .bool g2, .string t2] 24 (0, 0))) := Lib.hid (by have h := heap_alloc_new (w.alloc (.cells #[.int .u64 s, .int .u64 n, .bool g, .string t] 24)) (.cells #[.int .u64 s2, .int .u64 n2, .bool g2, .string t2] 24); rw [show (w.alloc (.cells #[.int .u64 s, .int .u64 n, .bool g, .string t] 24)).heap.size = w.heap.size + 1 from by simp] at h; exact h)
  clear hI hba
  rcases h with h | ⟨h, h'⟩ | ⟨h, h', h3⟩
  · have t1 : decide ((200 : Int) < (t.size : Int)) = true := by simp; omega
    clear h
    go_enter Try.func4, Try.ntmps4
    go_wp2_with (go_at_call 14; refine (ralive_calls _).mono ?_; rintro e w1 ⟨rfl, hb1⟩; have ⟨c0, c1, c2, c3⟩ := rec_cells (blk_later HR0.out hb1); have ⟨d0, d1, d2, d3⟩ := rec_cells (blk_later HQ0.out hb1); have HB1 := Lib.hid (HB0.out.trans (hb1.mono (Nat.le_of_lt HLT.out))); clear hb1)
    go_ret
    exact ⟨rfl, HB1.out⟩
  · have t1 : decide ((200 : Int) < (t.size : Int)) = false := by simp; omega
    have t2' : decide ((200 : Int) < (t2.size : Int)) = true := by simp; omega
    clear h h'
    go_enter Try.func4, Try.ntmps4
    go_wp2_with (go_at_call 14; refine (ralive_calls _).mono ?_; rintro e w1 ⟨rfl, hb1⟩; have ⟨c0, c1, c2, c3⟩ := rec_cells (blk_later HR0.out hb1); have ⟨d0, d1, d2, d3⟩ := rec_cells (blk_later HQ0.out hb1); have HB1 := Lib.hid (HB0.out.trans (hb1.mono (Nat.le_of_lt HLT.out))); clear hb1)
    go_ret
    exact ⟨rfl, HB1.out⟩
  · have t1 : decide ((200 : Int) < (t.size : Int)) = false := by simp; omega
    have t2' : decide ((200 : Int) < (t2.size : Int)) = false := by simp; omega
    have t3 : decide ((200 : Int) < (l.length : Int)) = true := by simp; omega
    clear h h' h3
    go_enter Try.func4, Try.ntmps4
    go_wp2_with (go_at_call 14; refine (ralive_calls _).mono ?_; rintro e w1 ⟨rfl, hb1⟩; have ⟨c0, c1, c2, c3⟩ := rec_cells (blk_later HR0.out hb1); have ⟨d0, d1, d2, d3⟩ := rec_cells (blk_later HQ0.out hb1); have HB1 := Lib.hid (HB0.out.trans (hb1.mono (Nat.le_of_lt HLT.out))); clear hb1)
    go_ret
    exact ⟨rfl, HB1.out⟩
/-- two versions, compared -/
theorem eql_recs (s n : Int) (g : Bool) (t : ByteArray) (s2 n2 : Int) (g2 : Bool) (t2 : ByteArray) (W : World) :
    (binOp .eql 24 (.agg #[.int .u64 s, .int .u64 n, .bool g, .string t]) (.agg #[.int .u64 s2, .int .u64 n2, .bool g2, .string t2])).run Try.prog W = .ok (.bool (decide (s = s2 ∧ n = n2 ∧ g = g2 ∧ t = t2))) W := by
  go_simp
  have ht : t.toList = t2.toList ↔ t = t2 := ⟨toList_inj, fun h => by rw [h]⟩
  by_cases h1 : s = s2 <;> by_cases h2 : n = n2 <;> by_cases h3 : g = g2 <;> by_cases h4 : t = t2 <;> simp [h1, h2, h3, h4, ht]
theorem recBack_walk (s n : Int) (g : Bool) (t : ByteArray) (hs : W64 s) (hn : W64 n) (s2 n2 : Int) (g2 : Bool) (t2 : ByteArray) (hs2 : W64 s2) (hn2 : W64 n2) (v : Value) (l : List Int) {w : World} (hI : Ints .u64 w v l) :
    Calls Try.prog 4 #[.agg #[.int .u64 s, .int .u64 n, .bool g, .string t], .agg #[.int .u64 s2, .int .u64 n2, .bool g2, .string t2], v] w fun e w' => e = .returned (.bool true) ∧ Below w.heap.size w w' := by
  by_cases h : t.size ≤ 200 ∧ t2.size ≤ 200 ∧ l.length ≤ 200
  · obtain ⟨h1, h2, h3⟩ := h
    by_cases k1 : recOk s g t
    · by_cases k2 : recOk s2 g2 t2
      · exact recBack_yy s n g t s2 n2 g2 t2 v l w hs hn hs2 hn2 hI h1 h2 h3 k1 k2 _ (eql_recs s n g t s2 n2 g2 t2) (by simp only [encL_inj k1 k2])
      · exact recBack_yn s n g t s2 n2 g2 t2 v l w hs hn hs2 hn2 hI h1 h2 h3 k1 k2
    · by_cases k2 : recOk s2 g2 t2
      · exact recBack_ny s n g t s2 n2 g2 t2 v l w hs hn hs2 hn2 hI h1 h2 h3 k1 k2
      · exact recBack_nn s n g t s2 n2 g2 t2 v l w hs hn hs2 hn2 hI h1 h2 h3 k1 k2
  · exact recBack_out s n g t s2 n2 g2 t2 v l w hI (by omega)

end Go.Proofs.Ytflobafmmfigoaa
