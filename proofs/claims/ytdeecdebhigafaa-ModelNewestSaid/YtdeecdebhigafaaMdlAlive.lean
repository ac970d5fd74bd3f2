/- MODEL: 'alive' of law 16: the answers that it asks are given. -/
import Derived.Test.YtdeecdebhigafaaMdlRead
namespace Go.Proofs.Ytdeecdebhigafaa
open Go Go.RowKit

theorem kb_lit (l : Array UInt8) : kb ⟨l⟩ = l.toList := (kb_data _).symm
/-- a row that is written out -/
theorem rows_lit {α : Type} (E : Wide α) (w : World) (t : TypeId) (l : List α) (hl : l.length ≤ 1000) : Rows E (w.alloc (.cells (l.flatMap E.enc).toArray t)) (.slice (some ⟨w.heap.size, 0, none⟩) l.length l.length) l := by
  refine ⟨by omega, .inr ⟨w.heap.size, 0, l.length, rfl, Nat.le_refl _, fun i y hy j u hu => ?_⟩⟩
  rw [cell_of_row _ _ _ _ _ _ (heap_alloc_new w _), Nat.zero_add]
  have := E.flatAt l i j y hy (E.jlt hu)
  rw [hu] at this
  simpa using this
theorem eqlP (x y : Pr) (w : World) : (binOp .eql 60 (.agg #[.string x.key, .string x.text]) (.agg #[.string y.key, .string y.text])).run Try.prog w = .ok (.bool (eqP x y)) w := by
  have hS : Try.prog.underlying 60 = some (.struct (Try.prog.fieldsOf 60)) := by kernel_rfl
  have hp : Try.prog.stoodInHeld 60 = false := by kernel_rfl
  rw [run_eql_struct, show (10000 : Nat) = 9999 + 1 from rfl, run_equalIn_agg w 9999 60 _ _ hS hp]
  simp only [Program.fieldsOf, Try.underlying60]
  go_simp
  by_cases h1 : x.key.toList = y.key.toList <;> by_cases h2 : x.text.toList = y.text.toList <;> simp [eqP, kb, h1, h2]
theorem guard_eqlP : Try.prog.eqGuardType Try.prog.depth 60 = false := by kernel_rfl
def w1A : Wr := ⟨({ data := #[97] } : ByteArray), ({ data := #[120] } : ByteArray), false⟩
def w2A : Wr := ⟨({ data := #[97] } : ByteArray), ({ data := #[] } : ByteArray), true⟩
def w2B : Wr := ⟨({ data := #[98] } : ByteArray), ({ data := #[121] } : ByteArray), false⟩
def wB : Wr := ⟨({ data := #[98] } : ByteArray), ({ data := #[] } : ByteArray), false⟩
def cs1 : List Ct := [⟨1, [w1A]⟩]
def cs2 : List Ct := [⟨1, [w1A]⟩, ⟨2, [w2A, w2B]⟩]
theorem al_last1 : lastN cs1 = 1 := rfl
theorem al_last2 : lastN cs2 = 2 := rfl
theorem al_get (k : ByteArray) : getS [w1A] k = (if [97] = kb k then some w1A else none) := by
  unfold getS
  simp only [List.find?, w1A, kb_lit]
  by_cases h : [97] = kb k
  · simp [h]
  · have h' : ([97] == kb k) = false := by simpa using h
    simp [h, h']
theorem al_get2 : getS [w2A, w2B] ({ data := #[97] } : ByteArray) = some w2A := by
  unfold getS
  simp [List.find?, w2A, kb_lit]
theorem al_read1 : readO cs2 ({ data := #[97] } : ByteArray) 1 = some w1A := by
  unfold readO cs2
  simp [al_get, kb_lit]
theorem al_read2 : readO cs2 ({ data := #[97] } : ByteArray) 2 = some w2A := by
  unfold readO cs2
  simp [al_get, al_get2, kb_lit]
theorem al_scan : scanM cs2 2 = [⟨({ data := #[98] } : ByteArray), ({ data := #[121] } : ByteArray)⟩] := by
  unfold scanM cs2
  simp [scanWM, overM, emit, w1A, w2A, w2B, kb_lit]
theorem al_rise1 : RiseW [w1A] := fun i x y _ h => by simp at h
theorem al_riseB : RiseW [wB] := fun i x y _ h => by simp at h
theorem al_rise2 : RiseW [w2A, w2B] := fun i x y h h' => by
  match i with
  | 0 => simp at h h'; subst h h'; simp only [w2A, w2B, kb_lit]; decide
  | i + 1 => simp at h'
theorem al_getB : getS [wB] ({ data := #[97] } : ByteArray) = none := by
  unfold getS
  simp [List.find?, wB, kb_lit]
theorem al_getb2 : getS [wB] ({ data := #[98] } : ByteArray) = some wB := by
  unfold getS
  simp [List.find?, wB, kb_lit]
theorem al_clash1 : clashB cs2 [wB] 1 = true := by
  unfold clashB cs2
  simp [clash1, meetB, w2A, w2B, al_getb2, al_getB]
theorem al_clash2 : clashB cs2 [wB] 2 = false := by
  unfold clashB cs2
  simp [clash1]
theorem al_few : FewC cs2 := by
  refine ⟨fun i c h => ?_, by decide⟩
  match i with
  | 0 => simp [cs2] at h; subst h; exact ⟨by decide, al_rise1, by decide⟩
  | 1 => simp [cs2] at h; subst h; exact ⟨by decide, al_rise2, by decide⟩
  | i + 2 => simp [cs2] at h
set_option maxRecDepth 100000 in
set_option maxHeartbeats 4000000 in
theorem alive16_calls (w : World) : Calls Try.prog 10 #[] w fun e w' => e = .returned (.bool true) ∧ Below w.heap.size w w' := by
  have HB : Hid (Below w.heap.size w w) := Lib.hid (Below.refl _ _)
  have HN : Hid (Coms w (.slice none 0 0) []) := Lib.hid ⟨[], Rows.nil_ _ _, rfl, fun i x c h => by cases h⟩
  have H1 : Hid (Rows EW (w.alloc (.cells #[.string ({ data := #[97] } : ByteArray), .string ({ data := #[120] } : ByteArray), .bool false] 70)) (.slice (some ⟨w.heap.size, 0, none⟩) 1 1) [w1A]) := Lib.hid (rows_lit EW w 70 [w1A] (by decide))
  go_enter Try.func10, Try.ntmps10
  replace HB : Hid (Below w.heap.size w (w.alloc (.cells #[.string ({ data := #[97] } : ByteArray), .string ({ data := #[120] } : ByteArray), .bool false] 70))) := Lib.hid (HB.out.alloc HB.out.size _)
  go_wp2_with fail
  refine (add_more _ _ [] [w1A] _ (HN.out.alloc _) H1.out (by decide) (by decide) (by decide)).mono ?_
  rintro e u1 ⟨v1, rfl, hc, hb⟩
  replace HB := Lib.hid (HB.out.trans (hb.mono HB.out.size))
  have HC1 := Lib.hid (hc)
  clear hb
  clear hc HN H1
  have hc1 : Hid (Coms u1 v1 cs1) := HC1
  clear HC1
  obtain ⟨a1, q1, rfl⟩ := hc1.out.slice
  have H2 : Hid (Rows EW (u1.alloc (.cells #[.string ({ data := #[97] } : ByteArray), .string ({ data := #[] } : ByteArray), .bool true, .string ({ data := #[98] } : ByteArray), .string ({ data := #[121] } : ByteArray), .bool false] 70)) (.slice (some ⟨u1.heap.size, 0, none⟩) 2 2) [w2A, w2B]) := Lib.hid (rows_lit EW u1 70 [w2A, w2B] (by decide))
  go_wp2_with fail
  replace hc1 := Lib.hid (hc1.out.alloc (.cells #[.string ({ data := #[97] } : ByteArray), .string ({ data := #[] } : ByteArray), .bool true, .string ({ data := #[98] } : ByteArray), .string ({ data := #[121] } : ByteArray), .bool false] 70))
  replace HB := Lib.hid (HB.out.alloc HB.out.size (.cells #[.string ({ data := #[97] } : ByteArray), .string ({ data := #[] } : ByteArray), .bool true, .string ({ data := #[98] } : ByteArray), .string ({ data := #[121] } : ByteArray), .bool false] 70))
  skip
  refine (add_more _ _ cs1 [w2A, w2B] _ hc1.out H2.out (by decide) (by decide) (by decide)).mono ?_
  rintro e u2 ⟨v2, rfl, hc, hb⟩
  replace hc1 := Lib.hid (hc1.out.below hb)
  replace HB := Lib.hid (HB.out.trans (hb.mono HB.out.size))
  clear hb
  have HC : Hid (Coms u2 v2 cs2) := Lib.hid hc
  clear hc hc1 H2
  obtain ⟨a2, q2, rfl⟩ := HC.out.slice
  have HRI : Hid (∀ (i : Nat) c, cs2[i]? = some c → RiseW c.set) := Lib.hid (fun i c h => (al_few.1 i c h).2.1)
  go_wp2_with fail
  refine (read_calls _ cs2 ({ data := #[97] } : ByteArray) 1 _ HC.out HRI.out).mono ?_
  rintro e u3 ⟨rfl, hb⟩
  replace HC := Lib.hid (HC.out.below hb)
  replace HB := Lib.hid (HB.out.trans (hb.mono HB.out.size))
  clear hb
  rw [al_read1, show seenT (some w1A) = ({ data := #[120] } : ByteArray) from rfl, show seenB (some w1A) = true from rfl]
  go_wp2_with fail
  refine (read_calls _ cs2 ({ data := #[97] } : ByteArray) 2 _ HC.out HRI.out).mono ?_
  rintro e u4 ⟨rfl, hb⟩
  replace HC := Lib.hid (HC.out.below hb)
  replace HB := Lib.hid (HB.out.trans (hb.mono HB.out.size))
  clear hb
  rw [al_read2, show seenT (some w2A) = ({ data := #[] } : ByteArray) from rfl, show seenB (some w2A) = false from rfl]
  go_wp2_with fail
  refine (scan_calls _ cs2 2 _ HC.out al_few).mono ?_
  rintro e u5 ⟨v5, rfl, ho, hl5, hb⟩
  replace HC := Lib.hid (HC.out.below hb)
  replace HB := Lib.hid (HB.out.trans (hb.mono HB.out.size))
  clear hb
  rw [al_scan] at ho hl5
  have HO := Lib.hid (ho.rows (by decide))
  clear ho hl5
  obtain ⟨a5, q5, rfl⟩ := HO.out.slice
  obtain ⟨b5, f5, rfl, _, hp0, hp1⟩ := HO.out.p2 (k := 0) rfl
  simp only [Nat.zero_mul, Nat.add_zero] at hp0 hp1
  have hP : ∀ W, (binOp .eql 60 (.agg #[.string ({ data := #[98] } : ByteArray), .string ({ data := #[121] } : ByteArray)]) (.agg #[.string ({ data := #[98] } : ByteArray), .string ({ data := #[121] } : ByteArray)])).run Try.prog W = .ok (.bool true) W := fun W => (eqlP ⟨({ data := #[98] } : ByteArray), ({ data := #[121] } : ByteArray)⟩ ⟨({ data := #[98] } : ByteArray), ({ data := #[121] } : ByteArray)⟩ W).trans (by rw [(eqP_iff _ _).2 rfl])
  have hgd : ∀ (p q : Operand) W, (eqGuard .eql 60 p q (.agg #[.string ({ data := #[98] } : ByteArray), .string ({ data := #[121] } : ByteArray)]) (.agg #[.string ({ data := #[98] } : ByteArray), .string ({ data := #[121] } : ByteArray)])).run Try.prog W = .ok () W := fun p q W => run_eqGuard_agg W .eql 60 p q _ _ guard_eqlP
  go_wp2_with fail
  refine (last_calls _ cs2 _ HC.out).mono ?_
  rintro e u6 ⟨rfl, rfl⟩
  rw [al_last2]
  have H3 : Hid (Rows EW (u5.alloc (.cells #[.string ({ data := #[98] } : ByteArray), .string ({ data := #[] } : ByteArray), .bool false] 70)) (.slice (some ⟨u5.heap.size, 0, none⟩) 1 1) [wB]) := Lib.hid (rows_lit EW u5 70 [wB] (by decide))
  go_wp2_with fail
  replace HC := Lib.hid (HC.out.alloc (.cells #[.string ({ data := #[98] } : ByteArray), .string ({ data := #[] } : ByteArray), .bool false] 70))
  replace HO := Lib.hid (HO.out.alloc (.cells #[.string ({ data := #[98] } : ByteArray), .string ({ data := #[] } : ByteArray), .bool false] 70))
  replace HB := Lib.hid (HB.out.alloc HB.out.size (.cells #[.string ({ data := #[98] } : ByteArray), .string ({ data := #[] } : ByteArray), .bool false] 70))
  skip
  refine (clash_calls _ _ cs2 [wB] 1 _ HC.out H3.out al_riseB).mono ?_
  rintro e u7 ⟨rfl, hb⟩
  replace HC := Lib.hid (HC.out.below hb)
  replace HO := Lib.hid (HO.out.below hb)
  replace HB := Lib.hid (HB.out.trans (hb.mono HB.out.size))
  clear hb
  rw [al_clash1]
  have H4 : Hid (Rows EW (u7.alloc (.cells #[.string ({ data := #[98] } : ByteArray), .string ({ data := #[] } : ByteArray), .bool false] 70)) (.slice (some ⟨u7.heap.size, 0, none⟩) 1 1) [wB]) := Lib.hid (rows_lit EW u7 70 [wB] (by decide))
  go_wp2_with fail
  replace HC := Lib.hid (HC.out.alloc (.cells #[.string ({ data := #[98] } : ByteArray), .string ({ data := #[] } : ByteArray), .bool false] 70))
  replace HO := Lib.hid (HO.out.alloc (.cells #[.string ({ data := #[98] } : ByteArray), .string ({ data := #[] } : ByteArray), .bool false] 70))
  replace HB := Lib.hid (HB.out.alloc HB.out.size (.cells #[.string ({ data := #[98] } : ByteArray), .string ({ data := #[] } : ByteArray), .bool false] 70))
  skip
  refine (clash_calls _ _ cs2 [wB] 2 _ HC.out H4.out al_riseB).mono ?_
  rintro e u8 ⟨rfl, hb⟩
  replace HC := Lib.hid (HC.out.below hb)
  replace HO := Lib.hid (HO.out.below hb)
  replace HB := Lib.hid (HB.out.trans (hb.mono HB.out.size))
  clear hb
  rw [al_clash2]
  go_wp2
  go_ret
  exact ⟨rfl, HB.out⟩
end Go.Proofs.Ytdeecdebhigafaa
