/- WORDS FOR MEMORY, of no program: slices of whole numbers that read as lists, rows of the call's own, bounds, small laws. -/
import Derived.Test.YtdeecdebhigafaaWords
import Derived.WalkKit
import Derived.WalkSpells
import Derived.WalkLawsBesides
import Derived.Deep.QuietTactic
import Derived.BigQuiet
import Derived.Lib.Hide
import Derived.Outline
import Derived.Deep.RegionWith
import Derived.Deep.Cut
import Derived.Deep.OwnRows
import Derived.Deep.Slices
import Derived.Lib.ConvBytes
import Derived.Laws.BytesArg
import Derived.Laws.BitsAllLaws
import Derived.ProofKit
import Derived.OpenShut
namespace Go.Proofs.Ytdeecdebhigafaa
open Go Go.RowKit

theorem ret_int {k : IntKind} {a b : Int} (h : a = b) : Ending.returned (.int k a) = .returned (.int k b) := by rw [h]
theorem ret_bool {a b : Bool} (h : a = b) : Ending.returned (.bool a) = .returned (.bool b) := by rw [h]
theorem Calls.quiet_of_eq {P : Program} {f : FuncId} {args : Array Value} {w : World} {n : Nat} {v : Value}
    (h : Calls P f args (w.drewN n) fun e w' => e = .returned v ∧ w.drewN n = w') : Calls P f args (w.drewN n) fun e w'' => e = .returned v ∧ ∃ m, w'' = w.drewN m :=
  h.mono fun _ _ ⟨he, hm⟩ => ⟨he, n, hm.symm⟩
/-- a call that only draws, within a region that draws -/
theorem quiet_at {P : Program} {f : FuncId} {args : Array Value} {w : World} {k : Nat} {v : Value}
    (h : Calls P f args (w.drewN k) fun e w' => e = .returned v ∧ ∃ m, w' = (w.drewN k).drewN m) : Calls P f args (w.drewN k) fun e w'' => e = .returned v ∧ ∃ m, w'' = w.drewN m :=
  h.mono fun _ _ ⟨he, m, hm⟩ => ⟨he, k + m, by rw [hm, World.drewN_drewN]⟩
theorem below_drewN {B : Nat} {a w : World} (h : Below B a w) (n : Nat) : Below B a (w.drewN n) := ⟨h.os, h.tape, h.output, h.size, h.block⟩
/-- one behind the other -/
theorem below_next {w w1 w2 : World} (h : Below w.heap.size w w1) (k : Below w1.heap.size w1 w2) : Below w.heap.size w w2 := h.trans (k.mono h.size)

theorem bd_u8 {n : Int} (h : (Lit.int .u8 n).wf = true) : 0 ≤ n ∧ n ≤ 255 := by
  simp [Lit.wf, IntKind.min, IntKind.max, IntKind.signed, IntKind.bits] at h
  omega
theorem bd_u16 {n : Int} (h : (Lit.int .u16 n).wf = true) : 0 ≤ n ∧ n ≤ 65535 := by
  simp [Lit.wf, IntKind.min, IntKind.max, IntKind.signed, IntKind.bits] at h
  omega
theorem bd_u32 {n : Int} (h : (Lit.int .u32 n).wf = true) : 0 ≤ n ∧ n ≤ 4294967295 := by
  simp [Lit.wf, IntKind.min, IntKind.max, IntKind.signed, IntKind.bits] at h
  omega
/-- a word's bounds, behind a name: long numerals stay out of the walk's sight -/
def W64 (n : Int) : Prop := 0 ≤ n ∧ n < 18446744073709551616
theorem bd_u64 {n : Int} (h : (Lit.int .u64 n).wf = true) : W64 n := by
  simp [Lit.wf, IntKind.min, IntKind.max, IntKind.signed, IntKind.bits] at h
  unfold W64
  omega
theorem wf_u64 {n : Int} (h : W64 n) : (Lit.int .u64 n).wf = true := by
  unfold W64 at h
  simp [Lit.wf, IntKind.min, IntKind.max, IntKind.signed, IntKind.bits]
  omega
def I64 (n : Int) : Prop := -9223372036854775808 ≤ n ∧ n ≤ 9223372036854775807
theorem bd_i64 {n : Int} (h : (Lit.int .i64 n).wf = true) : I64 n := by
  simp [Lit.wf, IntKind.min, IntKind.max, IntKind.signed, IntKind.bits] at h
  unfold I64
  omega
theorem wf_u8 {n : Int} (h : 0 ≤ n ∧ n ≤ 255) : (Lit.int .u8 n).wf = true := by
  simp [Lit.wf, IntKind.min, IntKind.max, IntKind.signed, IntKind.bits]
  omega

/-- a slice of whole numbers reads as a list -/
def Ints (k : IntKind) (w : World) (v : Value) (l : List Int) : Prop :=
  (∀ c ∈ l, (Lit.int k c).wf = true) ∧ l.length ≤ 140737488351232 ∧
  ((l = [] ∧ ∃ a cap, v = .slice a 0 cap) ∨ ∃ b off cap, v = .slice (some ⟨b, off, none⟩) l.length cap ∧ l.length ≤ cap ∧ ∀ j, j < l.length → w.cell? ⟨b, off + j, none⟩ = some (.int k (l.getD j 0)))
section
variable {k : IntKind} {w w' : World} {v : Value} {a : Option Addr} {n cap : Nat} {l : List Int}
theorem Ints.drewN (h : Ints k w v l) (n : Nat) : Ints k (w.drewN n) v l := h
theorem Ints.drew (h : Ints k w v l) : Ints k w.drew v l := h
theorem Ints.below (h : Ints k w v l) (hb : Below w.heap.size w w') : Ints k w' v l := by
  obtain ⟨h1, h2, h3⟩ := h
  refine ⟨h1, h2, ?_⟩
  rcases h3 with h3 | ⟨b, off, cap, hv, hlc, hc⟩
  · exact .inl h3
  · exact .inr ⟨b, off, cap, hv, hlc, fun j hj => (hb.cell (World.block_lt_of_cell? w _ (hc j hj))).trans (hc j hj)⟩
theorem Ints.slice (h : Ints k w v l) : ∃ a cap, v = .slice a l.length cap := by
  obtain ⟨_, _, ⟨rfl, a, cap, rfl⟩ | ⟨b, off, cap, rfl, _, _⟩⟩ := h
  · exact ⟨a, cap, rfl⟩
  · exact ⟨_, cap, rfl⟩
theorem Ints.row (h : Ints k w (.slice a n cap) l) (j : Nat) (hj : j < l.length) :
    ∃ b off, a = some ⟨b, off, none⟩ ∧ n = l.length ∧ w.cell? ⟨b, off + j, none⟩ = some (.int k (l.getD j 0)) := by
  obtain ⟨_, _, ⟨rfl, _⟩ | ⟨b, off, cap, hv, hlc, hc⟩⟩ := h
  · simp at hj
  · simp only [Value.slice.injEq] at hv
    obtain ⟨rfl, rfl, rfl⟩ := hv
    exact ⟨b, off, rfl, rfl, hc j hj⟩
/-- all its cells at once -/
theorem Ints.cells (h : Ints k w (.slice a n cap) l) (h0 : 0 < l.length) : ∃ b off, a = some ⟨b, off, none⟩ ∧ ∀ j, j < l.length → w.cell? ⟨b, off + j, none⟩ = some (.int k (l.getD j 0)) := by
  obtain ⟨_, _, ⟨rfl, _⟩ | ⟨b, off, cap, hv, hlc, hc⟩⟩ := h
  · simp at h0
  · simp only [Value.slice.injEq] at hv
    obtain ⟨rfl, rfl, rfl⟩ := hv
    exact ⟨b, off, rfl, hc⟩
theorem Ints.cap_le (h : Ints k w (.slice a n cap) l) : l.length ≤ cap := by
  obtain ⟨_, _, ⟨rfl, a, cap, hv⟩ | ⟨b, off, cap, hv, hlc, _⟩⟩ := h
  · simp
  · simp only [Value.slice.injEq] at hv
    obtain ⟨rfl, rfl, rfl⟩ := hv
    exact hlc
theorem Ints.take (h : Ints k w (.slice a n cap) l) (m : Nat) (hm : m ≤ l.length) : Ints k w (.slice a m cap) (l.take m) := by
  obtain ⟨h1, h2, h3⟩ := h
  have ht : (l.take m).length = m := by rw [List.length_take]; omega
  refine ⟨fun c hc => h1 c (List.mem_of_mem_take hc), by rw [ht]; omega, ?_⟩
  rcases h3 with ⟨rfl, a, cap, hv⟩ | ⟨b, off, cap, hv, hlc, hc⟩
  · simp only [Value.slice.injEq] at hv
    obtain ⟨rfl, rfl, rfl⟩ := hv
    simp only [List.length_nil, Nat.le_zero] at hm; subst hm
    exact .inl ⟨by simp, _, _, rfl⟩
  · simp only [Value.slice.injEq] at hv
    obtain ⟨rfl, rfl, rfl⟩ := hv
    refine .inr ⟨b, off, _, by rw [ht], by rw [ht]; omega, fun j hj => ?_⟩
    rw [ht] at hj
    rw [hc j (by omega)]
    simp [List.getD, hj]
theorem Ints.nil_ (a : Option Addr) (cap : Nat) : Ints k w (.slice a 0 cap) [] := ⟨by simp, by simp, .inl ⟨rfl, a, cap, rfl⟩⟩
theorem Ints.reads (h : Ints k w (.slice a n cap) l) : Reads w w.heap.size 1 a l.length (l.map (Value.int k)) := by
  refine ⟨by simp, fun hn => ?_⟩
  obtain ⟨b, off, rfl, hc⟩ := h.cells hn
  refine ⟨_, rfl, World.block_lt_of_cell? w _ (hc 0 hn), fun j u hj => ?_⟩
  have hlt : j < l.length := by
    rcases Nat.lt_or_ge j l.length with h' | h'
    · exact h'
    · simp [h'] at hj
  rw [Go.WideShapes.add_plain, hc j hlt]
  simp [hlt] at hj ⊢
  exact hj
end
theorem one_cells (k : IntKind) (l : List Int) : ∀ u ∈ l.map (Value.int k), u.oneCell' = true := fun u hu => by obtain ⟨x, _, rfl⟩ := List.mem_map.1 hu; rfl
theorem Ints.ofRow {k : IntKind} {w : World} {g : Nat} {C : Array Value} {t : TypeId} {fr : Nat × Nat} {l : List Int} {cap : Nat} (h : w.heap[g]? = some (.cells C t fr)) (h1 : ∀ c ∈ l, (Lit.int k c).wf = true) (h2 : l.length ≤ 140737488351232) (h3 : l.length ≤ cap)
    (hC : ∀ j, j < l.length → C[j]? = some (.int k (l.getD j 0))) : Ints k w (.slice (some ⟨g, 0, none⟩) l.length cap) l :=
  ⟨h1, h2, .inr ⟨g, 0, cap, rfl, h3, fun j hj => by rw [Nat.zero_add, cell_of_row w g j C t fr h]; exact hC j hj⟩⟩

/-- a row of the call's own -/
def Own (k : IntKind) (e : TypeId) (w : World) (base : Nat) (v : Value) (l : List Int) : Prop :=
  w.ownsRow base e 1 v l.length (l.map (Value.int k)) ∧ ∀ c ∈ l, (Lit.int k c).wf = true
theorem Own.nil_ (k : IntKind) (e : TypeId) (w : World) (base : Nat) : Own k e w base (.slice none 0 0) [] := ⟨⟨by simp, .inl ⟨rfl, rfl⟩⟩, by simp⟩
theorem own_slice' {w : World} {base n : Nat} {e : TypeId} {size : Nat} {v : Value} {xs : List Value} (h : w.ownsRow base e size v n xs) : ∃ A c, v = .slice A n c := by
  obtain ⟨_, ⟨rfl, rfl⟩ | ⟨g, cap, cur, rfl, _⟩⟩ := h
  · exact ⟨_, _, rfl⟩
  · exact ⟨_, _, rfl⟩
theorem Own.slice {k : IntKind} {e : TypeId} {w : World} {base : Nat} {v : Value} {l : List Int} (h : Own k e w base v l) : ∃ A c, v = .slice A l.length c := own_slice' h.1
theorem row_of_own {k : IntKind} {e : TypeId} {w : World} {base n : Nat} {v : Value} {l : List Int} (h : w.ownsRow base e 1 v n (l.map (Value.int k))) (hn : 0 < n) :
    ∃ g m f, v = .slice (some ⟨g, 0, none⟩) n m ∧ base ≤ g ∧ n ≤ m ∧ w.rowIs g e m f ∧ ∀ j, j < n → f j = .int k (l.getD j 0) := by
  obtain ⟨hl, ⟨rfl, h0⟩ | ⟨g, cap, cur, rfl, hb, hg, hnc, _, hsz, htk⟩⟩ := h
  · omega
  · refine ⟨g, cap, fun j => cur.getD j undef, rfl, hb, hnc, ⟨cur, hg, by omega, fun i hi => ?_⟩, fun j hj => ?_⟩
    · rw [Array.getElem?_eq_getElem (by omega)]; simp [show i < cur.size from by omega]
    · have e := congrArg (fun x : List Value => x[j]?) htk
      simp only [List.length_map, Nat.mul_one] at hl e
      rw [List.getElem?_take_of_lt hj] at e
      have hj' : j < l.length := by omega
      simp [hj'] at e
      simp [e, hj']
theorem Own.ints {k : IntKind} {e : TypeId} {w : World} {base : Nat} {v : Value} {l : List Int} (h : Own k e w base v l) (hl : l.length ≤ 140737488351232) : Ints k w v l := by
  obtain ⟨h, hb⟩ := h
  rcases Nat.eq_zero_or_pos l.length with h0 | h0
  · have hn := List.eq_nil_of_length_eq_zero h0
    subst hn
    obtain ⟨_, ⟨rfl, _⟩ | ⟨g, cap, cur, rfl, _⟩⟩ := h
    · exact Ints.nil_ _ _
    · exact Ints.nil_ _ _
  · obtain ⟨g, m, f, rfl, _, hmn, hr, hf⟩ := row_of_own h h0
    exact ⟨hb, hl, .inr ⟨g, 0, m, rfl, hmn, fun j hj => by rw [Nat.zero_add, hr.cell (by omega), hf j hj]⟩⟩
theorem Own.below {k : IntKind} {e : TypeId} {w w' : World} {base : Nat} {v : Value} {l : List Int} (h : Own k e w base v l) (hb : Below w.heap.size w w') : Own k e w' base v l :=
  ⟨h.1.kept (w' := w') (row := none) ⟨hb.os, hb.tape, hb.output, hb.size, fun i hi _ => hb.block i hi⟩ (by cases v.ownBlock with | none => exact .inl rfl | some x => exact .inr (by simp)), h.2⟩
theorem Own.mono {k : IntKind} {e : TypeId} {w : World} {base base' : Nat} {v : Value} {l : List Int} (h : Own k e w base v l) (hb : base' ≤ base) : Own k e w base' v l := by
  obtain ⟨⟨h1, h2⟩, h3⟩ := h
  refine ⟨⟨h1, ?_⟩, h3⟩
  rcases h2 with h2 | ⟨g, cap, cur, hv, hbg, hr⟩
  · exact .inl h2
  · exact .inr ⟨g, cap, cur, hv, Nat.le_trans hb hbg, hr⟩
theorem Own.drew {k : IntKind} {e : TypeId} {w : World} {base : Nat} {v : Value} {l : List Int} (h : Own k e w base v l) : Own k e w.drew base v l := h
theorem Own.drewN {k : IntKind} {e : TypeId} {w : World} {base : Nat} {v : Value} {l : List Int} (h : Own k e w base v l) (n : Nat) : Own k e (w.drewN n) base v l := h
theorem Own.alloc {k : IntKind} {e : TypeId} {w : World} {base : Nat} {v : Value} {l : List Int} (h : Own k e w base v l) (o : Obj) : Own k e (w.alloc o) base v l := ⟨h.1.alloc o, h.2⟩
/-- a row stays below what it grows by -/
theorem below_own {B : Nat} {w0 w w1 : World} {e : TypeId} {size n : Nat} {v : Value} {xs : List Value} (h : Below B w0 w) (ho : w.ownsRow B e size v n xs) (hB : B ≤ w.heap.size) (hg : w.grownBy w1 v.ownBlock) : Below B w0 w1 :=
  h.grown hg hB (fun q hq => (World.ownsRow.lt ho q hq).1)

/-- a string's bytes, as numbers -/
def bytesOf (s : ByteArray) : List Int := s.data.toList.map fun b => (b.toNat : Int)
theorem bytesOf_length (s : ByteArray) : (bytesOf s).length = s.size := by simp [bytesOf]
theorem bytesOf_bd (s : ByteArray) : ∀ c ∈ bytesOf s, 0 ≤ c ∧ c ≤ 255 := by
  intro c hc
  simp only [bytesOf, List.mem_map] at hc
  obtain ⟨b, _, rfl⟩ := hc
  have := b.toNat_lt; omega
theorem bytesOf_wf (s : ByteArray) : ∀ c ∈ bytesOf s, (Lit.int .u8 c).wf = true := fun c hc => wf_u8 (bytesOf_bd s c hc)
theorem bytes_conv (W : World) (e : TypeId) (s : ByteArray) (hs : s.size ≤ 140737488351232) : Ints .u8 (Lib.bytesWorld W e s) (.slice (some ⟨W.heap.size, 0, none⟩) s.size (grownCap W s.size 0 e)) (bytesOf s) := by
  refine ⟨bytesOf_wf s, by rw [bytesOf_length]; exact hs, ?_⟩
  refine .inr ⟨W.heap.size, 0, _, by rw [bytesOf_length], ?_, fun j hj => ?_⟩
  · rw [bytesOf_length]; exact grownCap_ge W s.size 0 e
  · rw [bytesOf_length] at hj
    rw [Nat.zero_add, Lib.bytesWorld_cell W e s j hj]
    have hj' : j < s.data.toList.length := by simpa using hj
    unfold bytesOf
    rw [List.getD_eq_getElem?_getD, List.getD_eq_getElem?_getD, List.getElem?_map, List.getElem?_eq_getElem hj']
    rfl
theorem bytes_conv_below {B : Nat} {w W : World} (h : Below B w W) (hB : B ≤ W.heap.size) (e : TypeId) (s : ByteArray) : Below B w (Lib.bytesWorld W e s) := by
  refine ⟨h.os, h.tape, h.output, ?_, fun i hi => ?_⟩
  · rw [Lib.bytesWorld_size]; have := h.size; omega
  · rw [Lib.bytesWorld_at_old W e s i (by omega)]; exact h.block i hi
/-- numbers as a string, and back -/
theorem bytesOf_strOf (l : List Int) (h : ∀ c ∈ l, 0 ≤ c ∧ c ≤ 255) : bytesOf (strOfNums l) = l := by
  unfold bytesOf
  rw [strOfNums_data, List.map_map]
  conv => rhs; rw [← List.map_id l]
  apply List.map_congr_left
  intro c hc
  have := h c hc
  simp only [Function.comp, id, UInt8.toNat_ofNat', Nat.reducePow]
  omega
theorem bytesOf_inj {a b : ByteArray} (h : bytesOf a = bytesOf b) : a = b := by
  unfold bytesOf at h
  have : a.data.toList = b.data.toList := by
    refine (List.map_inj_right (f := fun b : UInt8 => (b.toNat : Int)) (fun x y hxy => ?_)).1 h
    have hxy' : (x.toNat : Int) = (y.toNat : Int) := hxy
    exact UInt8.toNat.inj (by omega)
  cases a; cases b; simp at this; rw [this]
theorem strOf_inj {a b : List Int} (ha : ∀ c ∈ a, 0 ≤ c ∧ c ≤ 255) (hb : ∀ c ∈ b, 0 ≤ c ∧ c ≤ 255) : strOfNums a = strOfNums b ↔ a = b := by
  constructor
  · intro h
    rw [← bytesOf_strOf a ha, ← bytesOf_strOf b hb, h]
  · intro h; rw [h]
theorem strOf_bytes (s : ByteArray) : strOfNums (bytesOf s) = s := bytesOf_inj (bytesOf_strOf _ (bytesOf_bd s))
theorem Ints.bd {w : World} {v : Value} {l : List Int} (h : Ints .u8 w v l) : ∀ c ∈ l, 0 ≤ c ∧ c ≤ 255 := fun c hc => bd_u8 (h.1 c hc)
theorem at_bd {l : List Int} (h : ∀ c ∈ l, 0 ≤ c ∧ c ≤ 255) (j : Nat) (hj : j < l.length) : 0 ≤ l.getD j 0 ∧ l.getD j 0 ≤ 255 := by
  have : l.getD j 0 = l[j] := by simp [hj]
  rw [this]; exact h _ (List.getElem_mem hj)
/-- 'string(l)' -/
theorem Ints.string {P : Program} {w : World} {v : Value} {l : List Int} (h : Ints .u8 w v l) {src e dst : TypeId} (hs : P.underlying src = some (.slice e)) (he : P.underlying e = some (.int .u8)) (hd : P.underlying dst = some .string) :
    (convert src dst v).run P w = .ok (.string (strOfNums l)) w := by
  obtain ⟨_, _, ⟨rfl, a, cap, rfl⟩ | ⟨b, off, cap, rfl, _, hc⟩⟩ := h
  · rcases a with _ | ad
    · exact run_convert_bytes_nil w src e hs he 0 cap dst hd
    · rw [run_convert_bytes_string w src dst e _ 0 cap hs he hd, run_bytesToString w ad 0 cap [] (by simp [loadCells, loadCellsFrom])]
      rfl
  · exact run_convert_bytes_arg w src e hs he b off l.length cap l rfl hc dst hd
/-- numbers that were just laid -/
theorem news_of (k : IntKind) (w : World) (e : TypeId) (xs : List Int) : ∀ j u, (xs.map (Value.int k))[j]? = some u → (w.alloc (.cells (xs.map (Value.int k)).toArray e)).cell? ((⟨w.heap.size, 0, none⟩ : Addr).add j) = some u := by
  intro j u h
  rw [Go.WideShapes.add_plain, Nat.zero_add, World.cell?_alloc_mark]
  simpa using h
theorem reads_new (k : IntKind) (w : World) (e : TypeId) (xs : List Int) : Reads (w.alloc (.cells (xs.map (Value.int k)).toArray e)) (w.heap.size + 1) 1 (some ⟨w.heap.size, 0, none⟩) xs.length (xs.map (Value.int k)) :=
  ⟨by simp, fun _ => ⟨_, rfl, by show w.heap.size < _; omega, news_of k w e xs⟩⟩
end Go.Proofs.Ytdeecdebhigafaa
