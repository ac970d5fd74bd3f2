/- MODEL: the plain laws that the statements say, with no program in sight. -/
import Derived.Test.YtdeecdebhigafaaMdlAlive
namespace Go.Proofs.Ytdeecdebhigafaa
open Go Go.RowKit

def addC (cs : List Ct) (s : List Wr) : List Ct := cs ++ [⟨lastN cs + 1, s⟩]
theorem last_addC (cs : List Ct) (s : List Wr) : lastN (addC cs s) = lastN cs + 1 := by
  unfold lastN addC
  rw [List.getLast?_append]
  rfl
theorem stamp_mono {cs : List Ct} (h : RiseC cs) : ∀ (d i : Nat) c c', cs[i]? = some c → cs[i + d]? = some c' → c.stamp ≤ c'.stamp
  | 0, i, c, c', hc, hc' => by
    rw [Nat.add_zero, hc, Option.some.injEq] at hc'
    rw [hc']; exact Nat.le_refl _
  | d + 1, i, c, c', hc, hc' => by
    have hlt : i + d < cs.length := by have := (List.getElem?_eq_some_iff.1 hc').1; omega
    have hd : cs[i + d]? = some cs[i + d] := List.getElem?_eq_getElem hlt
    have h1 := stamp_mono h d i c _ hc hd
    have h2 := h.2 (i + d) _ c' hd hc'
    omega
theorem stamp_le {cs : List Ct} (h : RiseC cs) {c : Ct} (hc : c ∈ cs) : c.stamp ≤ lastN cs := by
  obtain ⟨i, hi⟩ := List.mem_iff_getElem?.1 hc
  have hlt := (List.getElem?_eq_some_iff.1 hi).1
  have hl : cs[cs.length - 1]? = some cs[cs.length - 1] := List.getElem?_eq_getElem (by omega)
  have e : lastN cs = (cs[cs.length - 1]).stamp := by unfold lastN; rw [List.getLast?_eq_getElem?, hl]
  rw [e]
  exact stamp_mono h (cs.length - 1 - i) i c _ hi (by rw [show i + (cs.length - 1 - i) = cs.length - 1 by omega]; exact hl)
/-! what is seen -/
theorem scan_snoc (cs : List Ct) (c : Ct) (k : Nat) : scanM (cs ++ [c]) k = scanWM k (scanM cs k) c := by
  unfold scanM
  rw [List.foldl_append]
  rfl
theorem scan_past (cs : List Ct) (s : List Wr) {k : Nat} (h : k ≤ lastN cs) : scanM (addC cs s) k = scanM cs k := by
  unfold addC
  rw [scan_snoc]
  unfold scanWM
  rw [if_neg]
  show ¬ lastN cs + 1 ≤ k
  omega
theorem scan_all {cs : List Ct} (h : RiseC cs) {k k' : Nat} (hk : lastN cs ≤ k) (hk' : lastN cs ≤ k') : scanM cs k = scanM cs k' := by
  have key : ∀ (ds : List Ct) (acc : List Pr), (∀ c ∈ ds, c.stamp ≤ lastN cs) → ds.foldl (scanWM k) acc = ds.foldl (scanWM k') acc := by
    intro ds
    induction ds with
    | nil => intro _ _; rfl
    | cons c ds ih =>
      intro acc hd
      have hc := hd c (by simp)
      rw [List.foldl_cons, List.foldl_cons]
      have e : scanWM k acc c = scanWM k' acc c := by unfold scanWM; rw [if_pos (by omega), if_pos (by omega)]
      rw [e]
      exact ih _ fun d hd' => hd d (by simp [hd'])
  exact key cs [] fun c hc => stamp_le h hc
theorem scan_new {cs : List Ct} (h : RiseC cs) (s : List Wr) : scanM (addC cs s) (lastN cs + 1) = overM (scanM cs (lastN cs)) s := by
  unfold addC
  rw [scan_snoc, scan_all h (k := lastN cs + 1) (k' := lastN cs) (by omega) (Nat.le_refl _)]
  unfold scanWM
  rw [if_pos (Nat.le_refl _)]
theorem few_addC {cs : List Ct} {s : List Wr} (h : FewC cs) (hl : cs.length ≤ 30) (hs : s.length ≤ 60) (hr : RiseW s) (h6 : lastN cs < 60000) : FewC (addC cs s) := by
  refine ⟨fun i c hc => ?_, by unfold addC; rw [List.length_append, List.length_singleton]; omega⟩
  unfold addC at hc
  rcases Nat.lt_or_ge i cs.length with hi | hi
  · rw [List.getElem?_append_left hi] at hc
    exact h.1 i c hc
  · rw [List.getElem?_append_right hi] at hc
    obtain ⟨hj, rfl⟩ := List.getElem?_eq_some_iff.1 hc
    simp only [List.length_singleton] at hj
    have : i - cs.length = 0 := by omega
    simp only [this, List.getElem_cons_zero]
    exact ⟨hs, hr, by show lastN cs + 1 < _; omega⟩
/-! clashes -/
theorem clash_last {cs : List Ct} (h : RiseC cs) (s : List Wr) {k : Nat} (hk : lastN cs ≤ k) : clashB cs s k = false := by
  unfold clashB
  rw [List.any_eq_false]
  intro c hc
  have := stamp_le h hc
  unfold clash1
  rw [decide_eq_false (by omega)]
  simp
theorem clash_new {cs : List Ct} (h : RiseC cs) (a b : List Wr) : clashB (addC cs a) b (lastN cs) = meetB a b := by
  have h1 := clash_last h b (Nat.le_refl (lastN cs))
  unfold clashB at h1 ⊢
  unfold addC
  rw [List.any_append, h1, Bool.false_or]
  simp [clash1]
theorem clash_behind {cs : List Ct} (h : RiseC cs) (a b : List Wr) : clashB (addC cs a) b (lastN cs + 1) = false := by
  have h1 := clash_last h b (Nat.le_succ (lastN cs))
  unfold clashB at h1 ⊢
  unfold addC
  rw [List.any_append, h1, Bool.false_or]
  simp [clash1]
theorem clash_mono {cs : List Ct} {s : List Wr} {k k' : Nat} (hk : k ≤ k') (h : clashB cs s k' = true) : clashB cs s k = true := by
  unfold clashB at h ⊢
  rw [List.any_eq_true] at h ⊢
  obtain ⟨c, hc, h⟩ := h
  refine ⟨c, hc, ?_⟩
  unfold clash1 at h ⊢
  simp only [Bool.and_eq_true, decide_eq_true_eq] at h ⊢
  exact ⟨by omega, h.2⟩
theorem clash_nothing (cs : List Ct) (k : Nat) : clashB cs [] k = false := by
  unfold clashB
  rw [List.any_eq_false]
  intro c _
  simp [clash1, meetB, getS]
theorem clash_none (s : List Wr) (k : Nat) : clashB [] s k = false := rfl
/-! reading -/
theorem getS_mem {s : List Wr} (h : RiseW s) {x : Wr} (hx : x ∈ s) : getS s x.key = some x := by
  obtain ⟨i, hi⟩ := List.mem_iff_getElem?.1 hx
  refine getS_hit hi rfl fun j y hj hy he => ?_
  have hp := rise_pw h
  unfold RisePW at hp
  rw [List.pairwise_iff_getElem] at hp
  obtain ⟨h1, rfl⟩ := List.getElem?_eq_some_iff.1 hi
  obtain ⟨h2, rfl⟩ := List.getElem?_eq_some_iff.1 hy
  have := hp j i h2 h1 hj
  rw [he] at this
  exact ltL_irrefl _ this
theorem read_new (cs : List Ct) {s : List Wr} (h : RiseW s) {x : Wr} (hx : x ∈ s) : readO (addC cs s) x.key (lastN cs + 1) = some x := by
  unfold addC
  rw [readO_snoc, if_pos (Nat.le_refl _), getS_mem h hx]
  rfl
theorem read_others {cs : List Ct} (h : RiseC cs) {s : List Wr} {key : ByteArray} (hx : ∀ x ∈ s, kb x.key ≠ kb key) : readO (addC cs s) key (lastN cs + 1) = readO cs key (lastN cs) := by
  unfold addC
  rw [readO_snoc, if_pos (Nat.le_refl _), getS_none.2 hx, Option.none_or]
  have key' : ∀ (ds : List Ct) (acc : Option Wr), (∀ c ∈ ds, c.stamp ≤ lastN cs) → ds.foldl (fun acc c => if c.stamp ≤ lastN cs + 1 then (getS c.set key).or acc else acc) acc = ds.foldl (fun acc c => if c.stamp ≤ lastN cs then (getS c.set key).or acc else acc) acc := by
    intro ds
    induction ds with
    | nil => intro _ _; rfl
    | cons c ds ih =>
      intro acc hd
      have hc := hd c (by simp)
      rw [List.foldl_cons, List.foldl_cons, if_pos (by omega), if_pos hc]
      exact ih _ fun d hd' => hd d (by simp [hd'])
  exact key' cs none fun c hc => stamp_le h hc
/-! Scan has just what Read tells -/
def findP (l : List Pr) (key : ByteArray) : Option Pr := l.find? fun p => kb p.key == kb key
theorem findP_some {l : List Pr} (hl : RiseP l) {key : ByteArray} {p : Pr} : (p ∈ l ∧ kb p.key = kb key) ↔ findP l key = some p := by
  unfold findP
  constructor
  · rintro ⟨hp, he⟩
    obtain ⟨i, hi⟩ := List.mem_iff_getElem?.1 hp
    obtain ⟨h1, rfl⟩ := List.getElem?_eq_some_iff.1 hi
    rw [List.find?_eq_some_iff_getElem]
    refine ⟨by simpa using he, i, h1, rfl, fun j hj => ?_⟩
    have hp := hl
    unfold RiseP at hp
    rw [List.pairwise_iff_getElem] at hp
    have := hp j i (by omega) h1 hj
    simp only [Bool.not_eq_true', beq_eq_false_iff_ne, ne_eq]
    intro he'
    rw [he', ← he] at this
    exact ltL_irrefl _ this
  · intro h
    have h1 := List.find?_some h
    exact ⟨List.mem_of_find?_eq_some h, by simpa using h1⟩
theorem findP_none {l : List Pr} {key : ByteArray} : (∀ p ∈ l, kb p.key ≠ kb key) ↔ findP l key = none := by
  unfold findP
  rw [List.find?_eq_none]
  simp
/-- what 'Read' tells, as a pair -/
def pairO (key : ByteArray) (o : Option Wr) : Option Pr := match o with
  | some x => if x.gone then none else some ⟨key, x.text⟩
  | none => none
theorem findP_over {l : List Pr} {s : List Wr} (hl : RiseP l) (hs : RisePW s) (key : ByteArray) : findP (overM l s) key = match getS s key with
    | some x => pairO key (some x)
    | none => findP l key := by
  have hr := overM_rise l s hl hs
  cases hg : getS s key with
  | none =>
    have hno := getS_none.1 hg
    show _ = findP l key
    cases hf : findP l key with
    | none =>
      have hno' := findP_none.2 hf
      refine findP_none.1 fun p hp => ?_
      rcases (overM_mem l s hl hs p).1 hp with ⟨h1, _⟩ | ⟨y, hy, _, rfl⟩
      · exact hno' p h1
      · exact hno y hy
    | some p =>
      have hp := (findP_some hl).2 hf
      refine (findP_some hr).1 ⟨(overM_mem l s hl hs p).2 (.inl ⟨hp.1, fun y hy => ?_⟩), hp.2⟩
      rw [hp.2]
      exact hno y hy
  | some x =>
    show _ = pairO key (some x)
    have hx : x ∈ s := List.mem_of_find?_eq_some hg
    have he : kb x.key = kb key := by have := List.find?_some hg; simpa using this
    unfold pairO
    cases hgn : x.gone with
    | true =>
      simp only [hgn, if_true]
      refine findP_none.1 fun p hp he' => ?_
      rcases (overM_mem l s hl hs p).1 hp with ⟨_, h1⟩ | ⟨y, hy, hyg, rfl⟩
      · exact h1 x hx (by rw [he, he'])
      · have h1 := getS_mem (pw_rise hs) hy
        have h2 := getS_mem (pw_rise hs) hx
        have e : y.key = x.key := kb_inj (he'.trans he.symm)
        rw [e, h2, Option.some.injEq] at h1
        rw [h1, hyg] at hgn
        cases hgn
    | false =>
      simp only [hgn]
      have := kb_inj he
      subst this
      exact (findP_some hr).1 ⟨(overM_mem l s hl hs _).2 (.inr ⟨x, hx, hgn, rfl⟩), rfl⟩
theorem scan_read {cs : List Ct} (hF : ∀ c ∈ cs, RisePW c.set) (k : Nat) (key : ByteArray) : RiseP (scanM cs k) ∧ findP (scanM cs k) key = pairO key (readO cs key k) := by
  have gen : ∀ (ds : List Ct) (acc : List Pr) (o : Option Wr), (∀ c ∈ ds, RisePW c.set) → RiseP acc → findP acc key = pairO key o →
      RiseP (ds.foldl (scanWM k) acc) ∧ findP (ds.foldl (scanWM k) acc) key = pairO key (ds.foldl (fun acc c => if c.stamp ≤ k then (getS c.set key).or acc else acc) o) := by
    intro ds
    induction ds with
    | nil => intro acc o _ h1 h2; exact ⟨h1, h2⟩
    | cons c ds ih =>
      intro acc o hd h1 h2
      rw [List.foldl_cons, List.foldl_cons]
      have hc := hd c (by simp)
      refine ih _ _ (fun d hd' => hd d (by simp [hd'])) ?_ ?_
      · unfold scanWM
        split
        · exact overM_rise _ _ h1 hc
        · exact h1
      · unfold scanWM
        split
        · rw [findP_over h1 hc]
          cases getS c.set key with
          | none => exact h2
          | some x => rfl
        · exact h2
  exact gen cs [] none hF List.Pairwise.nil rfl
theorem pairO_seen (key : ByteArray) (o : Option Wr) : pairO key o = if seenB o then some ⟨key, seenT o⟩ else none := by
  cases o with
  | none => rfl
  | some x =>
    obtain ⟨k, t, g⟩ := x
    cases g <;> rfl
end Go.Proofs.Ytdeecdebhigafaa
