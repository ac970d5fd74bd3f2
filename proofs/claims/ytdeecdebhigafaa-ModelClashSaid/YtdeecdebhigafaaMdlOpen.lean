/- MODEL: what came in as data, and the laws at it. -/
import Derived.Test.YtdeecdebhigafaaOpenRows
import Derived.Test.YtdeecdebhigafaaOpenArr
import Derived.Test.YtdeecdebhigafaaRows
import Derived.Test.YtdeecdebhigafaaMdlPast
import Derived.Test.YtdeecdebhigafaaMdlFirst
import Derived.Test.YtdeecdebhigafaaMdlNewest
import Derived.Test.YtdeecdebhigafaaMdlOthers
import Derived.Test.YtdeecdebhigafaaMdlCalls
import Derived.Test.YtdeecdebhigafaaMdlClashL
import Derived.Test.YtdeecdebhigafaaMdlScansL
namespace Go.Proofs.Ytdeecdebhigafaa
open Go Go.RowKit Go.WideShapes Go.ChangeShapes Go.Deep

section
variable {H : Type} {enc : TypeId × Value → H} {W : World} {base : Nat} {spare : Nat → Bool} {held : Bool}
theorem el_write (cs' : List Value) (n : Nat) (y : DataW H × List MemPlace) (h : DataW.trod enc Try.prog W base spare held n 52 cs' = some y) (hl : cs'.length = EW.k) : ∃ z : Wr, EW.enc z = cs' ∧ True := by
  match cs', hl with
  | [c0, c1, c2], _ =>
    obtain ⟨y0, y1, y2, m, _, g0, g1, g2⟩ := trod_fields3 Try.underlying52 (by kernel_rfl) h
    obtain ⟨k, e0, _, _⟩ := DataW.trod_string Try.underlying9 g0
    obtain ⟨t, e1, _, _⟩ := DataW.trod_string Try.underlying9 g1
    obtain ⟨b, e2, _⟩ := DataW.trod_bool Try.underlying4 g2
    simp only [List.cons.injEq, and_true] at e0 e1 e2
    subst e0 e1 e2
    exact ⟨⟨k, t, b⟩, rfl, trivial⟩
theorem el_commit (cs' : List Value) (n : Nat) (y : DataW H × List MemPlace) (h : DataW.trod enc Try.prog W base spare held n 62 cs' = some y) (hl : cs'.length = EC.k) (hw : ∀ z ∈ y.1.weights Try.prog 62, z ≤ 140737488351232) :
    ∃ z : Cl, EC.enc z = cs' ∧ (z.stamp < 18446744073709551616 ∧ ∃ s, Rows EW W (.slice z.a z.n z.cap) s) := by
  match cs', hl with
  | [c0, c1], _ =>
    obtain ⟨y0, y1, m, hx, g0, g1⟩ := trod_fields2 Try.underlying62 (by kernel_rfl) h
    rw [hx] at hw
    obtain ⟨k, e0, _, hk⟩ := DataW.trod_int Try.underlying24 g0
    simp only [List.cons.injEq, and_true] at e0
    subst e0
    have hk' := bd_u64 hk
    unfold W64 at hk'
    have hsl : ∃ a len cap, c1 = .slice a len cap := by
      rcases open_slice Try.underlying23 g1 with ⟨hc, _⟩ | ⟨_, _, _, _, _, _, _, hc, _⟩
      · simp only [List.cons.injEq, and_true] at hc; exact ⟨_, _, _, hc⟩
      · simp only [List.cons.injEq, and_true] at hc; exact ⟨_, _, _, hc⟩
    obtain ⟨a, len, cap, rfl⟩ := hsl
    obtain ⟨s, hs, _⟩ := rows_of_trod (E := EW) (Q := fun _ => True) Try.underlying23 (by kernel_rfl) (of_decide_eq_true (by kernel_rfl)) (fun cs' n y h hl _ => el_write cs' n y h hl) g1 (fun z hz => hw z (by
      simp only [DataW.weights, Try.underlying62]
      exact weights_mem (j := 1) rfl rfl z hz))
    exact ⟨⟨k.toNat, a, len, cap⟩, by simp [EC]; omega, by show k.toNat < _; omega, s, hs⟩
theorem el_string (cs' : List Value) (n : Nat) (y : DataW H × List MemPlace) (h : DataW.trod enc Try.prog W base spare held n 9 cs' = some y) (_ : cs'.length = ES.k) (hw : ∀ z ∈ y.1.weights Try.prog 9, z ≤ 140737488351232) :
    ∃ z : ByteArray, ES.enc z = cs' ∧ z.size ≤ 140737488351232 := by
  obtain ⟨k, rfl, rfl, _⟩ := DataW.trod_string Try.underlying9 h
  exact ⟨k, rfl, by have := hw k.data.toList.length (by simp [DataW.weights]); simpa using this⟩
end
/-- a store that came in -/
def ComsA (w : World) (v : Value) (cs : List Ct) : Prop := Coms w v cs ∧ ∀ c ∈ cs, c.stamp < 18446744073709551616
theorem coms_of {w : World} {v : Value} {l : List Cl} (h : Rows EC w v l) (hq : ∀ z ∈ l, z.stamp < 18446744073709551616 ∧ ∃ s, Rows EW w (.slice z.a z.n z.cap) s) : ∃ cs, ComsA w v cs := by
  refine ⟨l.attach.map fun z => ⟨z.1.stamp, Classical.choose (hq z.1 z.2).2⟩, ⟨l, h, by simp, fun i x c hx hc => ?_⟩, fun c hc => ?_⟩
  · rw [List.getElem?_map] at hc
    obtain ⟨z, hz, rfl⟩ := Option.map_eq_some_iff.1 hc
    have e : z.1 = x := by
      have h1 := congrArg (Option.map Subtype.val) hz
      rw [← List.getElem?_map, List.attach_map_subtype_val, hx] at h1
      simpa using h1.symm
    subst e
    exact ⟨rfl, Classical.choose_spec (hq z.1 z.2).2⟩
  · obtain ⟨z, _, rfl⟩ := List.mem_map.1 hc
    exact (hq z.1 z.2).1
section
variable {H : Type} {enc : TypeId × Value → H} {W : World} {base : Nat} {v : Value} {d : DataW H} {p : List MemPlace} {spare : Nat → Bool} {held : Bool} {r : Reach} {b0 : Nat}
theorem open_coms (hv : Value.okWide Try.prog W r b0 22 v) (h : DataW.Trod enc Try.prog W base spare held 22 v d p) (hw : ∀ y ∈ d.weights Try.prog 22, y ≤ 140737488351232) : ∃ cs, ComsA W v cs := by
  obtain ⟨l, hl, hq⟩ := open_rows (E := EC) Try.underlying22 (by kernel_rfl) (of_decide_eq_true (by kernel_rfl)) el_commit hv h hw
  exact coms_of hl hq
theorem open_sets (hv : Value.okWide Try.prog W r b0 23 v) (h : DataW.Trod enc Try.prog W base spare held 23 v d p) (hw : ∀ y ∈ d.weights Try.prog 23, y ≤ 140737488351232) : ∃ s, Rows EW W v s := by
  obtain ⟨l, hl, _⟩ := open_rows (E := EW) (Q := fun _ => True) Try.underlying23 (by kernel_rfl) (of_decide_eq_true (by kernel_rfl)) (fun cs' n y h hl _ => el_write cs' n y h hl) hv h hw
  exact ⟨l, hl⟩
theorem open_strs (hv : Value.okWide Try.prog W r b0 57 v) (h : DataW.Trod enc Try.prog W base spare held 57 v d p) (hw : ∀ y ∈ d.weights Try.prog 57, y ≤ 140737488351232) : ∃ ks, Rows ES W v ks ∧ ∀ k ∈ ks, k.size ≤ 140737488351232 :=
  open_rows (E := ES) Try.underlying57 (by kernel_rfl) (of_decide_eq_true (by kernel_rfl)) el_string hv h hw
theorem open_two64 (hv : Value.okWide Try.prog W r b0 68 v) (h : DataW.Trod enc Try.prog W base spare held 68 v d p) : ∃ n m : Nat, v = .agg #[.int .u64 (n : Int), .int .u64 (m : Int)] := by
  obtain ⟨zs, rfl, hl, hz⟩ := open_arr_ints Try.underlying68 Try.underlying24 (by kernel_rfl) (by kernel_rfl) hv h
  obtain ⟨a, b, rfl⟩ := list2 hl
  have ha := bd_u64 (hz a (by simp))
  have hb := bd_u64 (hz b (by simp))
  unfold W64 at ha hb
  exact ⟨a.toNat, b.toNat, by simp; omega⟩
end
theorem nat_u64 {n : Int} (h : (Lit.int .u64 n).wf = true) : ∃ m : Nat, n = (m : Int) := by
  have := bd_u64 h
  unfold W64 at this
  exact ⟨n.toNat, by omega⟩
section
variable {w : World} (v : Value) (cs : List Ct) (hI : ComsA w v cs)
include hI
theorem modelCalls_at (u : Value) (s : List Wr) (hs : Rows EW w u s) (n : Int) (hn : (Lit.int .u64 n).wf = true) : Calls Try.prog 3 #[v, u, .int .u64 n] w fun e w' => e = .returned (.bool true) ∧ Below w.heap.size w w' := by
  obtain ⟨m, rfl⟩ := nat_u64 hn
  exact modelCalls_walk v u cs s m w hI.1 hI.2 hs
theorem modelPast_at (u : Value) (s : List Wr) (hs : Rows EW w u s) (n : Int) (hn : (Lit.int .u64 n).wf = true) : Calls Try.prog 4 #[v, u, .int .u64 n] w fun e w' => e = .returned (.bool true) ∧ Below w.heap.size w w' := by
  obtain ⟨m, rfl⟩ := nat_u64 hn
  exact modelPast_walk v u cs s m w hI.1 hI.2 hs
theorem modelScans_at (u : Value) (ks : List ByteArray) (hk : Rows ES w u ks ∧ ∀ k ∈ ks, k.size ≤ 140737488351232) (n : Int) (hn : (Lit.int .u64 n).wf = true) : Calls Try.prog 5 #[v, u, .int .u64 n] w fun e w' => e = .returned (.bool true) ∧ Below w.heap.size w w' := by
  obtain ⟨m, rfl⟩ := nat_u64 hn
  exact modelScans_walk v u cs ks m w hI.1 hI.2 hk.1 hk.2
theorem modelFirst_at (u : Value) (a : List Wr) (ha : Rows EW w u a) (t : Value) (b : List Wr) (hb : Rows EW w t b) : Calls Try.prog 6 #[v, u, t] w fun e w' => e = .returned (.bool true) ∧ Below w.heap.size w w' :=
  modelFirst_walk v u t cs a b w hI.1 hI.2 ha hb
theorem modelNewest_at (u : Value) (s : List Wr) (hs : Rows EW w u s) : Calls Try.prog 7 #[v, u] w fun e w' => e = .returned (.bool true) ∧ Below w.heap.size w w' :=
  modelNewest_walk v u cs s w hI.1 hI.2 hs
theorem modelOthers_at (u : Value) (s : List Wr) (hs : Rows EW w u s) (key : ByteArray) (_ : key.size ≤ maxLen) : Calls Try.prog 8 #[v, u, .string key] w fun e w' => e = .returned (.bool true) ∧ Below w.heap.size w w' :=
  modelOthers_walk v u cs s key w hI.1 hI.2 hs
theorem modelClash_at (u : Value) (s : List Wr) (hs : Rows EW w u s) (n m : Nat) : Calls Try.prog 9 #[v, u, .agg #[.int .u64 (n : Int), .int .u64 (m : Int)]] w fun e w' => e = .returned (.bool true) ∧ Below w.heap.size w w' :=
  modelClash_walk v u cs s n m w hI.1 hI.2 hs
end
end Go.Proofs.Ytdeecdebhigafaa
