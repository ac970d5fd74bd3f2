/- MODEL: two slices of structs, the very same. -/
import Derived.Test.YtdeecdebhigafaaMdlSmall
import Derived.Laws.StructEq
namespace Go.Proofs.Ytdeecdebhigafaa
open Go Go.RowKit

def eqW (x y : Wr) : Bool := kb x.key == kb y.key && (kb x.text == kb y.text && x.gone == y.gone)
theorem eqW_iff (x y : Wr) : eqW x y = true ↔ x = y := by
  unfold eqW
  obtain ⟨k, t, g⟩ := x
  obtain ⟨k', t', g'⟩ := y
  simp only [Bool.and_eq_true, beq_iff_eq, Wr.mk.injEq]
  exact ⟨fun ⟨h1, h2, h3⟩ => ⟨kb_inj h1, kb_inj h2, h3⟩, fun ⟨h1, h2, h3⟩ => by subst h1 h2 h3; exact ⟨rfl, rfl, rfl⟩⟩
theorem neqW (x y : Wr) (w : World) : (binOp .neq 52 (.agg #[.string x.key, .string x.text, .bool x.gone]) (.agg #[.string y.key, .string y.text, .bool y.gone])).run Try.prog w = .ok (.bool (!eqW x y)) w := by
  have hS : Try.prog.underlying 52 = some (.struct (Try.prog.fieldsOf 52)) := by kernel_rfl
  have hp : Try.prog.stoodInHeld 52 = false := by kernel_rfl
  rw [run_neq_struct, show (10000 : Nat) = 9999 + 1 from rfl, run_equalIn_agg w 9999 52 _ _ hS hp]
  simp only [Program.fieldsOf, Try.underlying52]
  go_simp
  by_cases h1 : x.key.toList = y.key.toList <;> by_cases h2 : x.text.toList = y.text.toList <;> by_cases h3 : x.gone = y.gone <;> simp [eqW, kb, h1, h2, h3]
theorem guard_neqW : Try.prog.eqGuardType Try.prog.depth 52 = false := by kernel_rfl
set_option maxHeartbeats 400000 in
theorem same15_calls (v u : Value) (l r : List Wr) (w : World) (hI : Rows EW w v l) (hJ : Rows EW w u r) :
    Calls Try.prog 35 #[v, u] w fun e w' => ∃ b : Bool, e = .returned (.bool b) ∧ (b = true ↔ l = r) ∧ Below w.heap.size w w' := by
  obtain ⟨a, cap, rfl⟩ := hI.slice
  obtain ⟨a', cap', rfl⟩ := hJ.slice
  have HI := Lib.hid hI
  have HJ := Lib.hid hJ
  have hle := hI.le
  have hcap := hI.cap_le
  have hcap' := hJ.cap_le
  clear hI hJ
  by_cases hl : l.length = r.length
  · rw [← hl] at HJ hcap' ⊢
    have HL := Lib.hid hl
    clear hl
    go_enter Try.func35, Try.ntmps35
    go_wp2
    go_loopw [5] (fun i wr => ∃ k m : Nat, k ≤ l.length ∧ i = .int .i64 k ∧ (∀ j, j < k → l[j]? = r[j]?) ∧ wr = w.drewN m) (fun i _ => l.length - (intOf i).toNat)
    case atStart => exact ⟨0, 0, Nat.zero_le _, rfl, fun j hj => absurd hj (by omega), rfl⟩
    case round =>
      obtain ⟨k, m, hk, rfl, hyes, rfl⟩ := hrel
      have HYES := Lib.hid hyes
      clear hyes
      by_cases hlt : k < l.length
      · obtain ⟨x, hx⟩ : ∃ x, l[k]? = some x := ⟨_, List.getElem?_eq_getElem (by omega)⟩
        obtain ⟨y, hy⟩ : ∃ y, r[k]? = some y := ⟨_, List.getElem?_eq_getElem (by have := HL.out; omega)⟩
        have HX := Lib.hid hx
        have HY := Lib.hid hy
        obtain ⟨bb, off, rfl, hz, hc0, hc1, hc2⟩ := HI.out.w3 hx
        obtain ⟨bb', off', rfl, hz', hd0, hd1, hd2⟩ := HJ.out.w3 hy
        clear hz hz' hx hy
        have hne : ∀ W, (binOp .neq 52 (.agg #[.string x.key, .string x.text, .bool x.gone]) (.agg #[.string y.key, .string y.text, .bool y.gone])).run Try.prog W = .ok (.bool (!eqW x y)) W := fun W => neqW x y W
        have hgd : ∀ (p q : Operand) W, (eqGuard .neq 52 p q (.agg #[.string x.key, .string x.text, .bool x.gone]) (.agg #[.string y.key, .string y.text, .bool y.gone])).run Try.prog W = .ok () W := fun p q W => run_eqGuard_agg W .neq 52 p q _ _ guard_neqW
        cases hb : eqW x y
        · have HN : Hid (¬ l = r) := Lib.hid (fun h => by
            have e1 := HX.out
            rw [h, HY.out] at e1
            simp only [Option.some.injEq] at e1
            have := (eqW_iff x y).2 e1.symm
            rw [hb] at this; cases this)
          rw [hb] at hne
          clear hb
          go_wp2
          go_quiet (fail)
          go_wp2
          go_ret
          exact ⟨_, rfl, by simp [HN.out], below_drewN (below_drewN (Below.refl _ w) _) _⟩
        · have HE := Lib.hid ((eqW_iff x y).1 hb)
          rw [hb] at hne
          clear hb
          go_wp2
          go_quiet (fail)
          go_wp2
          go_roundw
          case rel =>
            refine ⟨k + 1, _, hlt, by go_num, fun j hj => ?_, rfl⟩
            by_cases e : j = k
            · subst e
              rw [HX.out, HY.out, HE.out]
            · exact HYES.out j (by omega)
          case measure => simp [intOf]; omega
      · have HALL : Hid (l = r) := Lib.hid (List.ext_getElem? fun j => by
          rcases Nat.lt_or_ge j l.length with h | h
          · exact HYES.out j (by omega)
          · rw [List.getElem?_eq_none h, List.getElem?_eq_none (by have := HL.out; omega)])
        go_wp2
        go_ret
        exact ⟨_, rfl, by simp [HALL.out], below_drewN (Below.refl _ w) _⟩
  · have HN : Hid (¬ l = r) := Lib.hid (fun h => hl (by rw [h]))
    have t1 : ((l.length : Int) == (r.length : Int)) = false := by rw [beq_eq_false_iff_ne]; omega
    have t2 : ((l.length : Int) != (r.length : Int)) = true := by rw [bne_iff_ne]; omega
    clear hl
    go_enter Try.func35, Try.ntmps35
    go_wp2
    go_ret
    exact ⟨_, rfl, by simp [HN.out], Below.refl _ w⟩
def eqP (x y : Pr) : Bool := kb x.key == kb y.key && kb x.text == kb y.text
theorem eqP_iff (x y : Pr) : eqP x y = true ↔ x = y := by
  unfold eqP
  obtain ⟨k, t⟩ := x
  obtain ⟨k', t'⟩ := y
  simp only [Bool.and_eq_true, beq_iff_eq, Pr.mk.injEq]
  exact ⟨fun ⟨h1, h2⟩ => ⟨kb_inj h1, kb_inj h2⟩, fun ⟨h1, h2⟩ => by subst h1 h2; exact ⟨rfl, rfl⟩⟩
theorem neqP (x y : Pr) (w : World) : (binOp .neq 79 (.agg #[.string x.key, .string x.text]) (.agg #[.string y.key, .string y.text])).run Try.prog w = .ok (.bool (!eqP x y)) w := by
  have hS : Try.prog.underlying 79 = some (.struct (Try.prog.fieldsOf 79)) := by kernel_rfl
  have hp : Try.prog.stoodInHeld 79 = false := by kernel_rfl
  rw [run_neq_struct, show (10000 : Nat) = 9999 + 1 from rfl, run_equalIn_agg w 9999 79 _ _ hS hp]
  simp only [Program.fieldsOf, Try.underlying79]
  go_simp
  by_cases h1 : x.key.toList = y.key.toList <;> by_cases h2 : x.text.toList = y.text.toList <;> simp [eqP, kb, h1, h2]
theorem guard_neqP : Try.prog.eqGuardType Try.prog.depth 79 = false := by kernel_rfl
set_option maxHeartbeats 400000 in
theorem pairs_calls (v u : Value) (l r : List Pr) (w : World) (hI : Rows EP w v l) (hJ : Rows EP w u r) :
    Calls Try.prog 24 #[v, u] w fun e w' => ∃ b : Bool, e = .returned (.bool b) ∧ (b = true ↔ l = r) ∧ Below w.heap.size w w' := by
  obtain ⟨a, cap, rfl⟩ := hI.slice
  obtain ⟨a', cap', rfl⟩ := hJ.slice
  have HI := Lib.hid hI
  have HJ := Lib.hid hJ
  have hle := hI.le
  have hcap := hI.cap_le
  have hcap' := hJ.cap_le
  clear hI hJ
  by_cases hl : l.length = r.length
  · rw [← hl] at HJ hcap' ⊢
    have HL := Lib.hid hl
    clear hl
    go_enter Try.func24, Try.ntmps24
    go_wp2
    go_loopw [5] (fun i wr => ∃ k m : Nat, k ≤ l.length ∧ i = .int .i64 k ∧ (∀ j, j < k → l[j]? = r[j]?) ∧ wr = w.drewN m) (fun i _ => l.length - (intOf i).toNat)
    case atStart => exact ⟨0, 0, Nat.zero_le _, rfl, fun j hj => absurd hj (by omega), rfl⟩
    case round =>
      obtain ⟨k, m, hk, rfl, hyes, rfl⟩ := hrel
      have HYES := Lib.hid hyes
      clear hyes
      by_cases hlt : k < l.length
      · obtain ⟨x, hx⟩ : ∃ x, l[k]? = some x := ⟨_, List.getElem?_eq_getElem (by omega)⟩
        obtain ⟨y, hy⟩ : ∃ y, r[k]? = some y := ⟨_, List.getElem?_eq_getElem (by have := HL.out; omega)⟩
        have HX := Lib.hid hx
        have HY := Lib.hid hy
        obtain ⟨bb, off, rfl, hz, hc0, hc1⟩ := HI.out.p2 hx
        obtain ⟨bb', off', rfl, hz', hd0, hd1⟩ := HJ.out.p2 hy
        clear hz hz' hx hy
        have hne : ∀ W, (binOp .neq 79 (.agg #[.string x.key, .string x.text]) (.agg #[.string y.key, .string y.text])).run Try.prog W = .ok (.bool (!eqP x y)) W := fun W => neqP x y W
        have hgd : ∀ (p q : Operand) W, (eqGuard .neq 79 p q (.agg #[.string x.key, .string x.text]) (.agg #[.string y.key, .string y.text])).run Try.prog W = .ok () W := fun p q W => run_eqGuard_agg W .neq 79 p q _ _ guard_neqP
        cases hb : eqP x y
        · have HN : Hid (¬ l = r) := Lib.hid (fun h => by
            have e1 := HX.out
            rw [h, HY.out] at e1
            simp only [Option.some.injEq] at e1
            have := (eqP_iff x y).2 e1.symm
            rw [hb] at this; cases this)
          rw [hb] at hne
          clear hb
          go_wp2
          go_quiet (fail)
          go_wp2
          go_ret
          exact ⟨_, rfl, by simp [HN.out], below_drewN (below_drewN (Below.refl _ w) _) _⟩
        · have HE := Lib.hid ((eqP_iff x y).1 hb)
          rw [hb] at hne
          clear hb
          go_wp2
          go_quiet (fail)
          go_wp2
          go_roundw
          case rel =>
            refine ⟨k + 1, _, hlt, by go_num, fun j hj => ?_, rfl⟩
            by_cases e : j = k
            · subst e
              rw [HX.out, HY.out, HE.out]
            · exact HYES.out j (by omega)
          case measure => simp [intOf]; omega
      · have HALL : Hid (l = r) := Lib.hid (List.ext_getElem? fun j => by
          rcases Nat.lt_or_ge j l.length with h | h
          · exact HYES.out j (by omega)
          · rw [List.getElem?_eq_none h, List.getElem?_eq_none (by have := HL.out; omega)])
        go_wp2
        go_ret
        exact ⟨_, rfl, by simp [HALL.out], below_drewN (Below.refl _ w) _⟩
  · have HN : Hid (¬ l = r) := Lib.hid (fun h => hl (by rw [h]))
    have t1 : ((l.length : Int) == (r.length : Int)) = false := by rw [beq_eq_false_iff_ne]; omega
    have t2 : ((l.length : Int) != (r.length : Int)) = true := by rw [bne_iff_ne]; omega
    clear hl
    go_enter Try.func24, Try.ntmps24
    go_wp2
    go_ret
    exact ⟨_, rfl, by simp [HN.out], Below.refl _ w⟩
end Go.Proofs.Ytdeecdebhigafaa
