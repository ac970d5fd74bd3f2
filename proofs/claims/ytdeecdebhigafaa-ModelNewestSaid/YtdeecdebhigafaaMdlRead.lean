/- MODEL: Read of the program, from the newest commit down. -/
import Derived.Test.YtdeecdebhigafaaMdlRef
import Derived.Test.YtdeecdebhigafaaDown
namespace Go.Proofs.Ytdeecdebhigafaa
open Go Go.RowKit Go.Shelf
attribute [local go_sem] Oper.semAt_some

def encbackC (l : List Cl) (i : Fin l.length) : Array Value := #[.int .i64 ((i.1 : Nat) : Int), .agg #[.int .u64 (l[i]).stamp, .slice (l[i]).a (l[i]).n (l[i]).cap]]
set_option maxRecDepth 100000 in
set_option maxHeartbeats 1000000 in
theorem backC_in (F : Fence) (n : Nat) (hf : F.fn 41) (hro : F.round = none) (a : Option Addr) (len cap : Nat) (w : World) :
    CallsIn F n Try.prog 41 #[.slice a len cap] w fun e w' => e = .returned (.func (.func 48) #[] #[.pointer (some ⟨w.heap.size, 0, none⟩)]) ∧ w.alloc (.cells #[.slice a len cap] 29) = w' := by
  refine callsIn_of_wp Try.func41 rfl hf ?_ hro
  simp only [Try.ntmps41, List.size_toArray, List.length_cons, List.length_nil, Nat.reduceAdd, Nat.reduceSub, Array.replicate_succ, Array.replicate_zero, List.push_toArray, List.append_toArray, List.nil_append, List.cons_append]
  gi_wp2
  go_ret
  exact ⟨rfl, rfl⟩
set_option maxRecDepth 100000 in
set_option maxHeartbeats 2000000 in
theorem backC1_in (F : Fence) (n : Nat) (hf : F.fn 48) (hro : F.round = none) (hn : 1 ≤ n) (lp Bs : Nat) (S : Nat → Prop) (a : Option Addr) (cap : Nat) (l : List Cl) (hS : 0 < l.length → ∀ ad, a = some ad → S ad.block) (hSB : S Bs) (J Jx : List (Fin l.length) → World → Prop)
    (hY : ∀ pre x W, J pre W → pre.length < l.length → YieldAt F (n - 1) Try.prog lp (encbackC l x) W fun e W' =>
      (e = .returned (.bool true) ∧ J (pre ++ [x]) W' ∧ KB S W W') ∨ (e = .returned (.bool false) ∧ Jx (pre ++ [x]) W'))
    (W : World) (hBs : W.cell? ⟨Bs, 0, none⟩ = some (.slice a l.length cap)) (hI : Rows EC W (.slice a l.length cap) l) (h0 : J [] W) :
    CallsIn F n Try.prog 48 #[.func (.yield lp) #[] #[], .pointer (some ⟨Bs, 0, none⟩)] W fun e W' => (∃ v, e = .returned v) ∧
      ((∃ ys, ys = dn l.length 0 ∧ J ys W') ∨ (∃ pre, (∃ k, k < l.length ∧ pre = dn l.length k) ∧ Jx pre W')) := by
  have hle := hI.le
  refine callsIn_of_wp Try.func48 rfl hf ?_ hro
  simp only [Try.ntmps48, List.size_toArray, List.length_cons, List.length_nil, Nat.reduceAdd, Nat.reduceSub, Array.replicate_succ, Array.replicate_zero, List.push_toArray, List.append_toArray, List.nil_append, List.cons_append]
  gi_wp2
  gi_loopw [3] (fun i wr => ∃ k : Nat, k ≤ l.length ∧ i = .int .i64 ((k : Int) - 1) ∧ J (dn l.length k) wr ∧ KB S W wr)
    (fun i _ => (intOf i + 1).toNat)
  case atStart => exact ⟨l.length, Nat.le_refl _, rfl, by rw [dn_top]; exact h0, KB.refl _ _⟩
  case round =>
    obtain ⟨k', hk, rfl, hJs, hnx⟩ := hrel
    have hBs' : wr.cell? ⟨Bs, 0, none⟩ = some (.slice a l.length cap) := (hnx.cell (p := ⟨Bs, 0, none⟩) hSB).trans hBs
    cases k' with
    | zero =>
      gi_wp2
      go_end0
      exact ⟨⟨_, rfl⟩, .inl ⟨_, rfl, hJs⟩⟩
    | succ k =>
      have hlt : k < l.length := hk
      have HDN : Hid (dn l.length k = dn l.length (k + 1) ++ [⟨k, hlt⟩]) := Lib.hid (dn_step _ _ hlt)
      obtain ⟨b, off, rfl, _, hcell⟩ := (hI.kb hnx hS).at_ (by omega)
      have hc0 : wr.cell? ⟨b, off + k * 2, none⟩ = some (.int .u64 (l[k]).stamp) := hcell k _ (List.getElem?_eq_getElem hlt) 0 _ rfl
      have hc1 : wr.cell? ⟨b, off + k * 2 + 1, none⟩ = some (.slice (l[k]).a (l[k]).n (l[k]).cap) := hcell k _ (List.getElem?_eq_getElem hlt) 1 _ rfl
      obtain ⟨fn, tmps, assign, body, hy, hR⟩ := hY _ ⟨k, hlt⟩ wr hJs (by rw [dn_length]; omega)
      dsimp only [encbackC, Fin.getElem_fin] at hy
      have HNX := Lib.hid hnx
      generalize l[k] = x at *
      clear hcell hnx
      gi_wp2
      refine hR.mono ?_
      rintro e W3 (⟨rfl, hJ3, hk3⟩ | ⟨rfl, hJx3⟩)
      · gi_wp2
        go_roundw
        case rel => exact ⟨k, by omega, by simp, by rw [HDN.out]; exact hJ3, HNX.out.trans hk3⟩
        case measure => simp [intOf]
      · gi_wp2
        refine bodyPost_ret (results_none rfl _ _ _) rfl ?_
        exact ⟨⟨_, rfl⟩, .inr ⟨_, ⟨k, hlt, HDN.out.symm⟩, hJx3⟩⟩
theorem backC_stops (F : Fence) (n : Nat) (hf : F.fn 48) (hro : F.round = none) (hn : 1 ≤ n) (Bs : Nat) (S : Nat → Prop) (a : Option Addr) (cap : Nat) (l : List Cl) (w : World) (hS : 0 < l.length → ∀ ad, a = some ad → S ad.block) (hSB : S Bs)
    (hBs : w.cell? ⟨Bs, 0, none⟩ = some (.slice a l.length cap)) (hI : Rows EC w (.slice a l.length cap) l) :
    SeqStopsK F n Try.prog 48 #[.pointer (some ⟨Bs, 0, none⟩)] (encbackC l) (KB S) (fun ys => ys = dn l.length 0) (fun pre => ∃ k, k < l.length ∧ pre = dn l.length k) l.length w :=
  fun lp J Jx W hW _ _ hY h0 => backC1_in F n hf hro hn lp Bs S a cap l hS hSB J Jx hY W ((hW.cell (p := ⟨Bs, 0, none⟩) (World.block_lt_of_cell? _ _ hBs)).trans hBs) (hI.below hW) h0
/-- what is left to say: the newest commit that has the key -/
def hitC (cs : List Ct) (key : ByteArray) (at' : Nat) (i : Nat) : Option Wr := match cs[i]? with
  | some c => if c.stamp ≤ at' then getS c.set key else none
  | none => none
def RdI (n z : Nat) (w : World) (key : ByteArray) (at' : Nat) (cs : List Ct) (m : Nat) (pre : List (Fin m)) (W : World) : Prop :=
  (∀ x ∈ pre, hitC cs key at' x.1 = none) ∧ W.cell? ⟨n, 0, none⟩ = some (.string key) ∧ W.cell? ⟨n + 1, 0, none⟩ = some (.int .u64 (at' : Int)) ∧
  Boxed W (n + 1 + 1) 9 (.string { data := #[] }) ∧ Boxed W (n + 1 + 1 + 1) 4 (.bool false) ∧ z ≤ W.heap.size ∧ Below n w W
def RdX (n z : Nat) (w : World) (key : ByteArray) (at' : Nat) (cs : List Ct) (m : Nat) (c : Code) (pre : List (Fin m)) (W : World) : Prop :=
  c = .ret ∧ (∃ ini last x, pre = ini ++ [last] ∧ (∀ y ∈ ini, hitC cs key at' y.1 = none) ∧ hitC cs key at' last.1 = some x ∧
    Boxed W (n + 1 + 1) 9 (.string (seenT (some x))) ∧ Boxed W (n + 1 + 1 + 1) 4 (.bool (seenB (some x)))) ∧ z ≤ W.heap.size ∧ Below n w W
theorem boxed_from {W W' : World} {row : Option Nat} {B z : Nat} {t : TypeId} {v : Value} (h : Boxed W B t v) (hg : W.grownBy W' row) (hr : ∀ r, row = some r → z ≤ r ∧ ∃ o : Obj, W.heap[r]? = some o ∧ o.isCells = false) : Boxed W' B t v :=
  boxed_own B t (fun _ : Unit => v) () W W' row h hg (fun r e => (hr r e).2)
theorem rdI_from {n z : Nat} {w : World} {key : ByteArray} {at' : Nat} {cs : List Ct} {m : Nat} (hn : n ≤ w.heap.size) (hz : n ≤ z) : OwnFrom z (RdI n z w key at' cs m) := fun _ W W' row h hg hr =>
  ⟨h.1, cell_kept h.2.1 hg (fun r e => (hr r e).2), cell_kept h.2.2.1 hg (fun r e => (hr r e).2), boxed_from h.2.2.2.1 hg hr, boxed_from h.2.2.2.2.1 hg hr, Nat.le_trans h.2.2.2.2.2.1 hg.size, ownFrom_below (β := Unit) hn hz () W W' row h.2.2.2.2.2.2 hg hr⟩
theorem rdX_from {n z : Nat} {w : World} {key : ByteArray} {at' : Nat} {cs : List Ct} {m : Nat} (hn : n ≤ w.heap.size) (hz : n ≤ z) (c : Code) : OwnFrom z (RdX n z w key at' cs m c) := fun _ W W' row h hg hr => by
  obtain ⟨hc, ⟨ini, last, x, h1, h2, h3, h4, h5⟩, h6, h7⟩ := h
  exact ⟨hc, ⟨ini, last, x, h1, h2, h3, boxed_from h4 hg hr, boxed_from h5 hg hr⟩, Nat.le_trans h6 hg.size, ownFrom_below (β := Unit) hn hz () W W' row h7 hg hr⟩
theorem two_stores {W : World} {n B B' : Nat} {t t' : TypeId} {v v' : Value} (h : Boxed W B t v) (h' : Boxed W B' t' v') (hne : B ≠ B') (hB : n ≤ B) (hB' : n ≤ B') (u u' : Value) :
    Boxed ((W.setCell ⟨B, 0, none⟩ u).setCell ⟨B', 0, none⟩ u') B t u ∧ Boxed ((W.setCell ⟨B, 0, none⟩ u).setCell ⟨B', 0, none⟩ u') B' t' u' ∧ KeepsOthers W ((W.setCell ⟨B, 0, none⟩ u).setCell ⟨B', 0, none⟩ u') ∧
    W.heap.size ≤ ((W.setCell ⟨B, 0, none⟩ u).setCell ⟨B', 0, none⟩ u').heap.size ∧ Below n W ((W.setCell ⟨B, 0, none⟩ u).setCell ⟨B', 0, none⟩ u') := by
  have hb : Below n W ((W.setCell ⟨B, 0, none⟩ u).setCell ⟨B', 0, none⟩ u') := ((Below.refl n W).setCell (p := ⟨B, 0, none⟩) hB u).setCell (p := ⟨B', 0, none⟩) hB' u'
  exact ⟨(h.set u).other hne u', (h'.other (fun e => hne e.symm) u).set u', (KeepsOthers.setCell _ _ _).trans (KeepsOthers.setCell _ _ _), hb.size, hb⟩
theorem readO_none {cs : List Ct} {key : ByteArray} {at' : Nat} (h : ∀ (i : Nat) c, cs[i]? = some c → c.stamp ≤ at' → getS c.set key = none) : readO cs key at' = none := by
  have key' : ∀ (ds : List Ct), (∀ c ∈ ds, c.stamp ≤ at' → getS c.set key = none) → ds.foldl (fun acc c => if c.stamp ≤ at' then (getS c.set key).or acc else acc) (none : Option Wr) = none := by
    intro ds
    induction ds with
    | nil => intro _; rfl
    | cons c ds ih =>
      intro hd
      rw [List.foldl_cons]
      have e : (if c.stamp ≤ at' then (getS c.set key).or none else none : Option Wr) = none := by
        split
        · rename_i hle
          rw [hd c (by simp) hle]; rfl
        · rfl
      rw [e]
      exact ih fun d hd' => hd d (by simp [hd'])
  exact key' cs fun c hc => by
    obtain ⟨i, hi⟩ := List.mem_iff_getElem?.1 hc
    exact h i c hi
theorem readO_take {cs : List Ct} {key : ByteArray} {at' k : Nat} (h : ∀ (i : Nat) c, k ≤ i → cs[i]? = some c → c.stamp ≤ at' → getS c.set key = none) : readO cs key at' = readO (cs.take k) key at' := by
  have e : cs = cs.take k ++ cs.drop k := (List.take_append_drop k cs).symm
  have hd : ∀ c ∈ cs.drop k, c.stamp ≤ at' → getS c.set key = none := fun c hc hle => by
    obtain ⟨i, hi⟩ := List.mem_iff_getElem?.1 hc
    rw [List.getElem?_drop] at hi
    exact h (k + i) c (by omega) hi hle
  have key' : ∀ (ds : List Ct) (acc : Option Wr), (∀ c ∈ ds, c.stamp ≤ at' → getS c.set key = none) → ds.foldl (fun acc c => if c.stamp ≤ at' then (getS c.set key).or acc else acc) acc = acc := by
    intro ds
    induction ds with
    | nil => intro _ _; rfl
    | cons c ds ih =>
      intro acc hd
      rw [List.foldl_cons]
      have e : (if c.stamp ≤ at' then (getS c.set key).or acc else acc : Option Wr) = acc := by
        split
        · rename_i hle
          rw [hd c (by simp) hle, Option.none_or]
        · rfl
      rw [e]
      exact ih acc fun d hd' => hd d (by simp [hd'])
  conv => lhs; rw [e]
  unfold readO
  rw [List.foldl_append, key' _ _ hd]
theorem hitC_of {cs : List Ct} {i : Nat} {c : Ct} (h : cs[i]? = some c) (key : ByteArray) (at' : Nat) : hitC cs key at' i = if c.stamp ≤ at' then getS c.set key else none := by
  unfold hitC; rw [h]
set_option maxRecDepth 100000 in
set_option maxHeartbeats 4000000 in
theorem read_in (v : Value) (cs : List Ct) (key : ByteArray) (at' : Nat) (w : World) (hI : Coms w v cs) (hF : ∀ (i : Nat) c, cs[i]? = some c → RiseW c.set) :
    CallsIn Fence.wide 9 Try.prog 28 #[v, .string key, .int .u64 (at' : Int)] w fun e w' => e = .returned (.tuple #[.string (seenT (readO cs key at')), .bool (seenB (readO cs key at'))]) ∧ Below w.heap.size w w' := by
  obtain ⟨l, hr, hs⟩ := hI.sets
  obtain ⟨a, cap, rfl⟩ := hI.slice
  have HR := Lib.hid hr
  have HS := Lib.hid hs
  have HF := Lib.hid hF
  have HLEN : Hid (l.length = cs.length) := Lib.hid hs.1
  rw [← hs.1] at HR ⊢
  clear hI hr hs hF
  refine callsIn_of_wp_marks Try.func28 rfl trivial ?_ rfl
  simp only [Try.ntmps28, List.size_toArray, List.length_cons, List.length_nil, Nat.reduceAdd, Nat.reduceSub, Array.replicate_succ, Array.replicate_zero, List.push_toArray, List.append_toArray, List.nil_append, List.cons_append]
  gi_wp2_with (refine ⟨trivial, ?_⟩; gi_at_call 41; refine (backC_in Fence.wide 8 trivial rfl _ _ _ _).mono ?_; rintro e w' ⟨rfl, rfl⟩)
  obtain ⟨w0, hw0⟩ : ∃ W, ((((w.alloc (.cells #[.string key] 9)).alloc (.cells #[.int .u64 (at' : Int)] 24)).alloc (.cells #[.string { data := #[] }] 9)).alloc (.cells #[.bool false] 4)).alloc (.cells #[.slice a l.length cap] 29) = W := ⟨_, rfl⟩
  have hB0 : Below w.heap.size w w0 := by
    rw [← hw0]
    exact (((((Below.refl _ w).alloc (Nat.le_refl _) _).alloc (by simp) _).alloc (by simp; omega) _).alloc (by simp; omega) _).alloc (by simp; omega) _
  have hz : w0.heap.size = w.heap.size + 5 := by rw [← hw0]; simp
  have hbT : Boxed w0 (w.heap.size + 1 + 1) 9 (.string { data := #[] }) := by
    rw [← hw0]
    have h := ((Boxed.new ((w.alloc (.cells #[.string key] 9)).alloc (.cells #[.int .u64 (at' : Int)] 24)) 9 (.string { data := #[] })).alloc (.cells #[.bool false] 4)).alloc (.cells #[.slice a l.length cap] 29)
    simpa using h
  have hbF : Boxed w0 (w.heap.size + 1 + 1 + 1) 4 (.bool false) := by
    rw [← hw0]
    have h := (Boxed.new (((w.alloc (.cells #[.string key] 9)).alloc (.cells #[.int .u64 (at' : Int)] 24)).alloc (.cells #[.string { data := #[] }] 9)) 4 (.bool false)).alloc (.cells #[.slice a l.length cap] 29)
    simpa using h
  have hbS : Boxed w0 (w.heap.size + 1 + 1 + 1 + 1) 29 (.slice a l.length cap) := by
    rw [← hw0]
    have h := Boxed.new ((((w.alloc (.cells #[.string key] 9)).alloc (.cells #[.int .u64 (at' : Int)] 24)).alloc (.cells #[.string { data := #[] }] 9)).alloc (.cells #[.bool false] 4)) 29 (.slice a l.length cap)
    simpa using h
  have hbK : Boxed w0 w.heap.size 9 (.string key) := by
    rw [← hw0]
    exact ((((Boxed.new w 9 (.string key)).alloc _).alloc _).alloc _).alloc _
  have hbA : Boxed w0 (w.heap.size + 1) 24 (.int .u64 (at' : Int)) := by
    rw [← hw0]
    have h := (((Boxed.new (w.alloc (.cells #[.string key] 9)) 24 (.int .u64 (at' : Int))).alloc (.cells #[.string { data := #[] }] 9)).alloc (.cells #[.bool false] 4)).alloc (.cells #[.slice a l.length cap] 29)
    simpa using h
  rw [hw0]
  refine wpIn_rangeFunc_ownH rfl (by omega) (gf := 48) (lb := #[.pointer (some ⟨w.heap.size + 1 + 1 + 1 + 1, 0, none⟩)]) rfl trivial (enters_of Try.func48 (by kernel_rfl) rfl)
    (backC_stops Fence.wide 8 trivial rfl (by omega) (w.heap.size + 1 + 1 + 1 + 1) (fun i => i < w0.heap.size) a cap l w0 (fun h ad e => by obtain ⟨b, off, e', hb, _⟩ := HR.out.at_ h; rw [e] at e'; cases e'; have := hB0.size; show b < w0.heap.size; omega) (by show _ < _; omega) hbS.cell (HR.out.below hB0))
    (fun h k => h.trans k) (kb_b (fun i h => h)) (Below.refl _ _) (fun _ => rfl)
    (RdI w.heap.size w0.heap.size w key at' cs l.length) (RdX w.heap.size w0.heap.size w key at' cs l.length) ?hI ?hIx ?h0
    (fun x a' W => ∃ Bx, w0.heap.size ≤ Bx ∧ W.heap[Bx]? = some (.cells #[.int .u64 (l[x]).stamp, .slice (l[x]).a (l[x]).n (l[x]).cap] 72 (0, 0)) ∧
      a' = { tmps := #[.slice a l.length cap, .string key, .int .u64 (at' : Int), undef, .pointer (some ⟨w.heap.size, 0, none⟩), .pointer (some ⟨w.heap.size + 1, 0, none⟩), .pointer (some ⟨w.heap.size + 1 + 1, 0, none⟩), .pointer (some ⟨w.heap.size + 1 + 1 + 1, 0, none⟩), undef, .pointer (some ⟨Bx, 0, none⟩), undef, undef, .slice a l.length cap, .func (.func 48) #[] #[.pointer (some ⟨w.heap.size + 1 + 1 + 1 + 1, 0, none⟩)], .int .i64 (x.1 : Nat), .agg #[.int .u64 (l[x]).stamp, .slice (l[x]).a (l[x]).n (l[x]).cap], undef, undef, undef, undef, undef, undef, undef, undef, undef, undef, undef, undef, undef, undef, undef, undef, undef, undef], defers := [] })
    ?hAx ?assign ?body ?done ?stop
  case hI => exact rdI_from (Nat.le_refl _) (by omega)
  case hIx => exact rdX_from (Nat.le_refl _) (by omega)
  case h0 => exact ⟨by simp, hbK.cell, hbA.cell, hbT, hbF, Nat.le_refl _, hB0⟩
  case hAx =>
    intro x a' _ W W' row h hg hr
    obtain ⟨Bx, h1, h2, h3⟩ := h
    refine ⟨Bx, h1, (hg.block Bx (Array.getElem?_eq_some_iff.1 h2).1 (fun e => ?_)).trans h2, h3⟩
    obtain ⟨_, o, ho, hc⟩ := hr Bx e.symm
    rw [h2] at ho
    cases ho
    cases hc
  case assign =>
    intro lp pre x W K hi hK
    dsimp only [encbackC]
    gi_wp2
    exact hK _ _ ((KeepsOthers.alloc _ _).from _) (KB.of_below (fun i h => h) ((Below.refl w0.heap.size W).alloc hi.2.2.2.2.2.1 _)) ((rdI_from (Nat.le_refl _) (by omega)).alloc _ hi) ⟨W.heap.size, hi.2.2.2.2.2.1, heap_alloc_new W _, rfl⟩
  case body =>
    rintro lp pre x a' W hlp hrec hi ⟨Bx, hBx, hrow, rfl⟩ hlen
    obtain ⟨c, hc⟩ : ∃ c, cs[x.1]? = some c := ⟨_, List.getElem?_eq_getElem (by have := x.2; have := HLEN.out; omega)⟩
    have hlx : l[x.1]? = some l[x.1] := List.getElem?_eq_getElem x.2
    obtain ⟨hst, hset⟩ := HS.out.2 x.1 _ c hlx hc
    obtain ⟨hmiss, hk0, ha0, hbT', hbF', hz', hbw⟩ := hi
    have HHIT := Lib.hid (hitC_of hc key at')
    have HMISS := Lib.hid hmiss
    have HSET := Lib.hid (hset.below (hbw.mono (Nat.le_refl _)))
    have HRF := Lib.hid (HF.out x.1 c hc)
    have HBT := Lib.hid hbT'
    have HBF := Lib.hid hbF'
    have HZ := Lib.hid hz'
    have HBW := Lib.hid hbw
    have hx0 : W.cell? ⟨Bx, 0, none⟩ = some (.int .u64 c.stamp) := by rw [cell_of_row W Bx 0 _ _ _ hrow, ← hst]; rfl
    have hx1 : W.cell? ⟨Bx, 1, none⟩ = some (.slice (l[x.1]).a (l[x.1]).n (l[x.1]).cap) := by rw [cell_of_row W Bx 1 _ _ _ hrow]; rfl
    have HX0 := Lib.hid hx0
    have HBXL : Hid (Bx < W.heap.size) := Lib.hid (World.block_lt_of_cell? _ _ hx0)
    have HA0 := Lib.hid ha0
    have HK0 := Lib.hid hk0
    simp only [Fin.getElem_fin] at *
    generalize l[x.1] = y at *
    clear hc hlx hst hset hmiss hbT' hbF' hz' hbw hrow hw0 hbT hbF hbS hbK hbA hB0 hz hlen
    gi_wp2_with fail
    refine ⟨trivial, (CallsIn.inRound lp (callsIn_wide.2 (get_calls _ c.set key _ HSET.out HRF.out))).mono ?_⟩
    rintro e w5 ⟨rfl, hb5⟩
    have hc5 : w5.cell? ⟨Bx, 0, none⟩ = some (.int .u64 c.stamp) := (hb5.cell (p := ⟨Bx, 0, none⟩) HBXL.out).trans HX0.out
    have ha5 : w5.cell? ⟨w.heap.size + 1, 0, none⟩ = some (.int .u64 (at' : Int)) := (hb5.cell (p := ⟨w.heap.size + 1, 0, none⟩) (World.block_lt_of_cell? _ _ HA0.out)).trans HA0.out
    have hlt1 := World.block_lt_of_cell? _ _ hc5
    have hlt2 := World.block_lt_of_cell? _ _ ha5
    have hbT5 : Boxed w5 (w.heap.size + 1 + 1) 9 (.string { data := #[] }) := (hb5.block _ HBT.out.lt).trans HBT.out
    have hbF5 : Boxed w5 (w.heap.size + 1 + 1 + 1) 4 (.bool false) := (hb5.block _ HBF.out.lt).trans HBF.out
    have HBT5 := Lib.hid hbT5
    have HBF5 := Lib.hid hbF5
    have ht1 := hbT5.cell
    have ht2 := hbT5.frozen
    have ht3 := hbF5.cell
    have ht4 := hbF5.frozen
    have ht5 := hbT5.lt
    have ht6 := hbF5.lt
    have HB5 := Lib.hid hb5
    clear hx0 hx1 ha0 hk0 hb5 hbT5 hbF5
    obtain ⟨o, ho⟩ : ∃ o, getS c.set key = o := ⟨_, rfl⟩
    rw [ho] at HHIT ⊢
    clear ho
    have HB6 : Hid (∀ ob, Below W.heap.size W (w5.alloc ob)) := Lib.hid (fun ob => HB5.out.alloc HB5.out.size ob)
    have HGO : Hid (∀ ob, hitC cs key at' x.1 = none → KeepsFrom w0.heap.size W (w5.alloc ob) ∧ KB (fun i => i < w0.heap.size) W (w5.alloc ob) ∧ RdI w.heap.size w0.heap.size w key at' cs l.length (pre ++ [x]) (w5.alloc ob)) := Lib.hid (fun ob h => by
      have hb := HB6.out ob
      refine ⟨keepsFrom_below hb, KB.of_below (fun i hi => hi) (hb.mono HZ.out), fun z hz => ?_, ?_, ?_, HBT5.out.alloc _, HBF5.out.alloc _, Nat.le_trans HZ.out hb.size, HBW.out.trans (hb.mono HBW.out.size)⟩
      · rcases List.mem_append.1 hz with hz | hz
        · exact HMISS.out z hz
        · simp only [List.mem_singleton] at hz
          subst hz
          exact h
      · exact (hb.cell (p := ⟨w.heap.size, 0, none⟩) (World.block_lt_of_cell? _ _ HK0.out)).trans HK0.out
      · exact (hb.cell (p := ⟨w.heap.size + 1, 0, none⟩) (World.block_lt_of_cell? _ _ HA0.out)).trans HA0.out)
    cases o with
    | none =>
      have HN := Lib.hid (HGO.out (.cells #[.string ByteArray.empty, .string ByteArray.empty, .bool false] 70) (by rw [HHIT.out, ite_self]))
      unfold getV
      gi_wp2
      exact HN.out
    | some z =>
      unfold getV
      by_cases hle : c.stamp ≤ at'
      · have HIT : Hid (hitC cs key at' x.1 = some z) := Lib.hid (by rw [HHIT.out, if_pos hle])
        have HST : Hid (∀ ob u u', Value.string (seenT (some z)) = u → Value.bool (seenB (some z)) = u' → KeepsFrom w0.heap.size W (((w5.setCell ⟨w.heap.size + 1 + 1, 0, none⟩ u).setCell ⟨w.heap.size + 1 + 1 + 1, 0, none⟩ u').alloc ob) ∧ RdX w.heap.size w0.heap.size w key at' cs l.length .ret (pre ++ [x]) (((w5.setCell ⟨w.heap.size + 1 + 1, 0, none⟩ u).setCell ⟨w.heap.size + 1 + 1 + 1, 0, none⟩ u').alloc ob)) := Lib.hid (fun ob u u' e e' => by
          subst e e'
          obtain ⟨k1, k2, k3, k4, k5⟩ := two_stores (n := w.heap.size) HBT5.out HBF5.out (by omega) (by omega) (by omega) (.string (seenT (some z))) (.bool (seenB (some z)))
          have hb := HB5.out
          exact ⟨((keepsFrom_below hb).trans (k3.from _)).trans ((KeepsOthers.alloc _ _).from _), rfl, ⟨pre, x, z, rfl, HMISS.out, HIT.out, k1.alloc _, k2.alloc _⟩, Nat.le_trans HZ.out (Nat.le_trans hb.size (Nat.le_trans k4 (by simp))), ((HBW.out.trans (hb.mono HBW.out.size)).trans k5).alloc (Nat.le_trans (HBW.out.trans (hb.mono HBW.out.size)).size k4) _⟩)
        obtain ⟨zk, zt, zg⟩ := z
        cases zg with
        | true =>
          have HN := Lib.hid (HST.out (.cells #[.string zk, .string zt, .bool true] 70) (.string { data := #[] }) (.bool false) rfl rfl)
          gi_wp2
          exact HN.out
        | false =>
          have HN := Lib.hid (HST.out (.cells #[.string zk, .string zt, .bool false] 70) (.string zt) (.bool true) rfl rfl)
          gi_wp2
          exact HN.out
      · have HN := Lib.hid (HGO.out (.cells #[.string z.key, .string z.text, .bool z.gone] 70) (by rw [HHIT.out, if_neg hle]))
        gi_wp2
        exact HN.out
  case done =>
    rintro D ys W hD rfl hi hK
    obtain ⟨hmiss, hk0, ha0, hbT', hbF', hz', hbw⟩ := hi
    have HMISS := Lib.hid hmiss
    have HBW := Lib.hid hbw
    have HBT := Lib.hid hbT'
    have HBF := Lib.hid hbF'
    have HZ := Lib.hid hz'
    have HK := Lib.hid hK
    have HO : Hid (readO cs key at' = none) := Lib.hid (readO_none fun i c hc hle => by
      have hi : i < l.length := by rw [HLEN.out]; exact (List.getElem?_eq_some_iff.1 hc).1
      have := HMISS.out ⟨i, hi⟩ ((dn_mem _ _ _).2 (Nat.zero_le _))
      rw [hitC_of hc, if_pos hle] at this
      exact this)
    have ht1 := hbT'.cell
    have ht2 := hbT'.frozen
    have ht3 := hbF'.cell
    have ht4 := hbF'.frozen
    have HD := Lib.hid hD
    clear hw0 hbT hbF hbS hbK hbA hB0 hmiss hk0 ha0 hbT' hbF' hz' hbw hK hD
    gi_wp2
    obtain ⟨k1, k2, k3, k4, k5⟩ := two_stores (n := w.heap.size) HBT.out HBF.out (by omega) (by omega) (by omega) (.string { data := #[] }) (.bool false)
    have hK7 := k3.same D _ HK.out rfl
    rw [HO.out]
    refine ⟨by simp, .inl ⟨_, _, rfl, run_takeDeferred hK7, ?_⟩⟩
    have hr7 : ∀ r, some D = some r → w0.heap.size ≤ r ∧ ∃ o : Obj, ((W.setCell ⟨w.heap.size + 1 + 1, 0, none⟩ (.string { data := #[] })).setCell ⟨w.heap.size + 1 + 1 + 1, 0, none⟩ (.bool false)).heap[r]? = some o ∧ o.isCells = false := fun r e => by cases e; exact ⟨HD.out, _, hK7, rfl⟩
    have hc5 := (boxed_from k1 (grownBy_putObj' _ D (.deferred none)) hr7).cell
    have hc6 := (boxed_from k2 (grownBy_putObj' _ D (.deferred none)) hr7).cell
    refine ⟨.tuple #[.string { data := #[] }, .bool false], ?_, rfl, (HBW.out.trans k5).trans (belowK_b (w := w) (Nat.le_refl _) _ D _ _ (by have := HD.out; omega) hK7 rfl rfl)⟩
    simp [results, Try.f28, go_sem, hc5, hc6]
  case stop =>
    rintro D c pre W hD ⟨k, hk, rfl⟩ ⟨rfl, ⟨ini, last, x, e1, e2, e3, k1, k2⟩, hz', hbw⟩ hK
    have HD := Lib.hid hD
    have HO : Hid (readO cs key at' = some x) := Lib.hid (by
      rw [dn_step _ _ hk] at e1
      obtain ⟨rfl, e5⟩ := List.append_inj' e1 rfl
      obtain rfl : (⟨k, hk⟩ : Fin l.length) = last := by simpa using e5
      obtain ⟨c, hc⟩ : ∃ c, cs[k]? = some c := ⟨_, List.getElem?_eq_getElem (by have := HLEN.out; omega)⟩
      rw [readO_take (k := k + 1) fun i d hi hd hle => by
        have hil : i < l.length := by rw [HLEN.out]; exact (List.getElem?_eq_some_iff.1 hd).1
        have := e2 ⟨i, hil⟩ ((dn_mem _ _ _).2 hi)
        rw [hitC_of hd, if_pos hle] at this
        exact this]
      rw [List.take_add_one, hc]
      simp only [Option.toList_some]
      rw [readO_snoc]
      have h3 : hitC cs key at' k = some x := e3
      rw [hitC_of hc] at h3
      by_cases hle : c.stamp ≤ at'
      · rw [if_pos hle] at h3 ⊢
        rw [h3]; rfl
      · rw [if_neg hle] at h3; cases h3)
    have HK := Lib.hid hK
    have K1 := Lib.hid k1
    have K2 := Lib.hid k2
    have HBW := Lib.hid hbw
    clear hw0 hbT hbF hbS hbK hbA hB0 k1 k2 e1 e2 e3 hz' hbw hK hD
    gi_wp2
    have hK7 := HK.out
    rw [HO.out]
    refine ⟨by simp, .inl ⟨_, _, rfl, run_takeDeferred hK7, ?_⟩⟩
    have hr7 : ∀ r, some D = some r → w0.heap.size ≤ r ∧ ∃ o : Obj, W.heap[r]? = some o ∧ o.isCells = false := fun r e => by cases e; exact ⟨HD.out, _, hK7, rfl⟩
    have hc5 := (boxed_from K1.out (grownBy_putObj' _ D (.deferred none)) hr7).cell
    have hc6 := (boxed_from K2.out (grownBy_putObj' _ D (.deferred none)) hr7).cell
    refine ⟨.tuple #[.string (seenT (some x)), .bool (seenB (some x))], ?_, rfl, HBW.out.trans (belowK_b (w := w) (Nat.le_refl _) _ D _ _ (by have := HD.out; omega) hK7 rfl rfl)⟩
    simp [results, Try.f28, go_sem, hc5, hc6]
theorem read_calls (v : Value) (cs : List Ct) (key : ByteArray) (at' : Nat) (w : World) (hI : Coms w v cs) (hF : ∀ (i : Nat) c, cs[i]? = some c → RiseW c.set) :
    Calls Try.prog 28 #[v, .string key, .int .u64 (at' : Int)] w fun e w' => e = .returned (.tuple #[.string (seenT (readO cs key at')), .bool (seenB (readO cs key at'))]) ∧ Below w.heap.size w w' :=
  callsIn_wide.1 (read_in v cs key at' w hI hF)
end Go.Proofs.Ytdeecdebhigafaa
