/- MODEL: words for the walk of ModelScans: rows of strings; the map of what Scan has. -/
import Derived.Test.YtdeecdebhigafaaMdlCommon
import Derived.Deep.RegionLawGrows
import Derived.Maps.Own
import Derived.Maps.OwnOps
import Derived.Maps.Views
namespace Go.Proofs.Ytdeecdebhigafaa
open Go Go.RowKit Go.Maps

def ES : Wide ByteArray := ⟨fun x => [.string x], 1, fun _ => rfl, fun x u hu => by simp at hu; subst hu; rfl, by omega⟩
theorem Rows.s1 {w : World} {a : Option Addr} {n cap k : Nat} {l : List ByteArray} {x : ByteArray} (h : Rows ES w (.slice a n cap) l) (hx : l[k]? = some x) :
    ∃ b off, a = some ⟨b, off, none⟩ ∧ n = l.length ∧ w.cell? ⟨b, off + k, none⟩ = some (.string x) := by
  have hn : 0 < l.length := by have := (List.getElem?_eq_some_iff.1 hx).1; omega
  obtain ⟨b, off, rfl, _, hc⟩ := h.at_ hn
  have := hc k x hx 0 _ rfl
  exact ⟨b, off, rfl, h.len_eq, by simpa [ES] using this⟩
theorem rowS : RowOfW Try.prog 57 9 ES (.string ByteArray.empty) 16 := ⟨Try.underlying57, by kernel_rfl, rfl⟩
/-- append where there is no room: a row of its own -/
theorem step_fresh {α : Type} {E : Wide α} {P : Program} {w : World} {ops : Array Oper} {o : Oper} {a : Act} {K : Act → World → Prop} {Q : Exit → Act → World → Prop} {X : Prop} (hgd : o.guard = none) (s x : Operand) (t : TypeId)
    (ho : o.op = .call { callee := .builtin .append, args := #[s, x], argTypes := #[t, t] })
    {e : TypeId} {z : Value} {b : Nat} (hP : RowOfW P t e E z b) (ad : Option Addr) (xs : List α) (hs : a.eval s = .slice ad xs.length xs.length) (hr : Rows E w (.slice ad xs.length xs.length) xs)
    (g c : Nat) (ys : List α) (hy0 : 0 < ys.length) (hx : a.eval x = .slice (some ⟨g, 0, none⟩) ys.length c) (hr' : Rows E w (.slice (some ⟨g, 0, none⟩) ys.length c) ys) (N : Nat) (hN : xs.length + ys.length ≤ N) (hNb : N ≤ maxLen ∧ N * b ≤ 140737488355328)
    (h : ∀ A c w', OwnR E e w' w.heap.size (.slice A (xs.length + ys.length) c) (xs ++ ys) → Below w.heap.size w w' → K (a.put o.dst (.slice A (xs.length + ys.length) c)) w') :
    if Region.wanted o (yielded ops a.tmps) = true then Oper.wp P o a w K Q else X := by
  obtain ⟨hu, hi, hz3⟩ := hP
  obtain ⟨i0, hi0, hz0, hz1, hz2⟩ := info_parts hi
  have hrd := hr.reads
  have hrd' := hr'.reads
  refine step_append_grows hgd s x t ho e i0 z E.k b hu hi0 hz0 hz1 hz2 hz3 E.pos ad xs.length xs.length (xs.flatMap E.enc) hs (fun e => ?_) hrd.1 (fun bb e j u hj => ?_) ⟨g, 0, none⟩ ys.length c (ys.flatMap E.enc) hx hrd'.1 (fun j u hj => ?_) (E.flatOne ys) (by omega) (by omega) (Nat.le_trans (Nat.mul_le_mul_right b hN) hNb.2) ?_
  · subst e
    cases xs with
    | nil => exact ⟨rfl, rfl⟩
    | cons x xs => obtain ⟨b, off, h, _⟩ := hr.at_ (by simp); cases h
  · have hn : 0 < xs.length := by
      rcases Nat.eq_zero_or_pos xs.length with h0 | h0
      · have := List.eq_nil_of_length_eq_zero h0
        subst this
        simp at hj
      · exact h0
    obtain ⟨a1, e1, _, hc⟩ := hrd.2 hn
    rw [e] at e1
    cases e1
    exact hc j u hj
  · obtain ⟨a1, e1, _, hc⟩ := hrd'.2 hy0
    cases e1
    exact hc j u hj
  · intro v' w' hown' hg
    obtain ⟨A, c, rfl⟩ := own_slice' hown'
    refine h A c w' ?_ ⟨hg.os, hg.tape, hg.output, hg.size, fun i hi => hg.block i hi (by simp)⟩
    unfold OwnR
    rw [List.length_append, List.flatMap_append]
    exact hown'
theorem Rows.cut {α : Type} {E : Wide α} {w : World} {a : Option Addr} {n cap : Nat} {l : List α} (h : Rows E w (.slice a n cap) l) : Rows E w (.slice a l.length l.length) l := by
  obtain rfl := h.len_eq
  obtain ⟨h2, h3⟩ := h
  refine ⟨h2, ?_⟩
  rcases h3 with ⟨rfl, _⟩ | ⟨b, off, cap', hv, hlc, hc⟩
  · exact .inl ⟨rfl, _, _, rfl⟩
  · simp only [Value.slice.injEq] at hv
    obtain ⟨rfl, _, rfl⟩ := hv
    exact .inr ⟨b, off, l.length, rfl, Nat.le_refl _, hc⟩
theorem lawS : Keyed Try.prog 9 := string_keyed Try.underlying9
theorem zeroI (w : World) : (zeroValue 3).run Try.prog w = .ok (.int .i64 0) w := by kernel_rfl
/-- what the map has, when k pairs have come -/
def HadM (B : Nat) (l : List Pr) (k : Nat) (W : World) : Prop :=
  ∃ D : DataW Unit, W.ownsMap Try.prog 9 (plainElem Try.prog 3) B k D ∧ IsMap D ∧
    ∀ key : ByteArray, D.atKey (.string key.data.toList) (.lit (.int .i64 0)) = .lit (.int .i64 (if ∃ p ∈ l.take k, kb p.key = kb key then 1 else 0))
theorem HadM.drew {B : Nat} {l : List Pr} {k : Nat} {W : World} (h : HadM B l k W) : HadM B l k W.drew := h
theorem HadM.drewN {B : Nat} {l : List Pr} {k : Nat} {W : World} (h : HadM B l k W) (n : Nat) : HadM B l k (W.drewN n) := h
theorem HadM.below {B : Nat} {l : List Pr} {k : Nat} {W W' : World} (h : HadM B l k W) (hb : Below W.heap.size W W') : HadM B l k W' := by
  obtain ⟨D, h1, h2, h3⟩ := h
  exact ⟨D, h1.kept (row := none) ⟨hb.os, hb.tape, hb.output, hb.size, fun i hi _ => hb.block i hi⟩ (by simp), h2, h3⟩
theorem HadM.alloc {B : Nat} {l : List Pr} {k : Nat} {W : World} (h : HadM B l k W) (o : Obj) : HadM B l k (W.alloc o) := h.below ((Below.refl _ W).alloc (Nat.le_refl _) o)
theorem HadM.made (W : World) (l : List Pr) : HadM W.heap.size l 0 (W.alloc (.map #[] 0)) := by
  refine ⟨.map [], World.ownsMap_made _ _ _ _, isMap_empty, fun key => ?_⟩
  simp [DataW.atKey]
theorem HadM.get {B : Nat} {l : List Pr} {k : Nat} {W : World} (h : HadM B l k W) : ∃ D : DataW Unit, W.ownsMap Try.prog 9 (plainElem Try.prog 3) B k D ∧ IsMap D ∧
    ∀ key : ByteArray, D.atKey (.string key.data.toList) (.lit (.int .i64 0)) = .lit (.int .i64 (if ∃ p ∈ l.take k, kb p.key = kb key then 1 else 0)) := h
theorem HadM.step {B : Nat} {l : List Pr} {k : Nat} {p : Pr} {D : DataW Unit} {W' : World} (hp : l[k]? = some p) (hm : IsMap D)
    (hat : ∀ key : ByteArray, D.atKey (.string key.data.toList) (.lit (.int .i64 0)) = .lit (.int .i64 (if ∃ p ∈ l.take k, kb p.key = kb key then 1 else 0)))
    (hown : W'.ownsMap Try.prog 9 (plainElem Try.prog 3) B (k + 1) (D.put (.string p.key.data.toList) (.lit (.int .i64 1)))) : HadM B l (k + 1) W' := by
  refine ⟨_, hown, hm.put _ _, fun key => ?_⟩
  have ht : l.take (k + 1) = l.take k ++ [p] := by rw [List.take_add_one, hp]; rfl
  by_cases he : kb p.key = kb key
  · have e : p.key = key := kb_inj he
    subst e
    rw [atKey_put_same hm (by exact trivial)]
    rw [if_pos ⟨p, by rw [ht]; simp, rfl⟩]
  · rw [atKey_put_other (by
      intro h
      simp only [Lit.string.injEq] at h
      exact he (by rw [← kb_data, ← kb_data, h]))]
    rw [hat]
    congr 2
    rw [ht]
    by_cases hx : ∃ q ∈ l.take k, kb q.key = kb key
    · rw [if_pos hx, if_pos (by obtain ⟨q, hq, hq'⟩ := hx; exact ⟨q, by simp [hq], hq'⟩)]
    · rw [if_neg hx, if_neg (by
        rintro ⟨q, hq, hq'⟩
        rcases List.mem_append.1 hq with hq | hq
        · exact hx ⟨q, hq, hq'⟩
        · simp only [List.mem_singleton] at hq
          subst hq
          exact he hq')]
theorem scan_keys {cs : List Ct} {k : Nat} {p : Pr} (h : p ∈ scanM cs k) : ∃ c ∈ cs, ∃ y ∈ c.set, kb y.key = kb p.key := by
  have gen : ∀ (ds : List Ct) (acc : List Pr), p ∈ ds.foldl (scanWM k) acc → (∃ q ∈ acc, kb q.key = kb p.key) ∨ ∃ c ∈ ds, ∃ y ∈ c.set, kb y.key = kb p.key := by
    intro ds
    induction ds with
    | nil => intro acc h; exact .inl ⟨p, h, rfl⟩
    | cons c ds ih =>
      intro acc h
      rw [List.foldl_cons] at h
      rcases ih _ h with ⟨q, hq, he⟩ | ⟨d, hd, hy⟩
      · unfold scanWM at hq
        split at hq
        · rcases overM_keys _ _ _ hq with ⟨x, hx, he'⟩ | ⟨y, hy, he'⟩
          · exact .inl ⟨x, hx, he'.trans he⟩
          · exact .inr ⟨c, by simp, y, hy, he'.trans he⟩
        · exact .inl ⟨q, hq, he⟩
      · exact .inr ⟨d, by simp [hd], hy⟩
  rcases gen cs [] h with ⟨q, hq, _⟩ | h
  · cases hq
  · exact h
/-- of what 'Scan' has: what 'Read' tells -/
theorem scan_tells {cs : List Ct} (hF : FewC cs) (k : Nat) (key : ByteArray) : ((∃ p ∈ scanM cs k, kb p.key = kb key) ↔ seenB (readO cs key k) = true) ∧ ∀ p ∈ scanM cs k, seenB (readO cs p.key k) = true ∧ seenT (readO cs p.key k) = p.text := by
  have hs : ∀ c ∈ cs, RisePW c.set := fun c hc => by
    obtain ⟨i, hi⟩ := List.mem_iff_getElem?.1 hc
    exact rise_pw (hF.1 i c hi).2.1
  constructor
  · have h := (scan_read hs k key)
    have h2 := h.2
    rw [pairO_seen] at h2
    constructor
    · rintro ⟨p, hp, he⟩
      have := (findP_some h.1).1 ⟨hp, he⟩
      rw [this] at h2
      cases hb : seenB (readO cs key k)
      · rw [hb] at h2; cases h2
      · rfl
    · intro hb
      rw [hb] at h2
      have := (findP_some h.1).2 h2
      exact ⟨_, this⟩
  · intro p hp
    have h := (scan_read hs k p.key)
    have h2 := h.2
    rw [pairO_seen, (findP_some h.1).1 ⟨hp, rfl⟩] at h2
    cases hb : seenB (readO cs p.key k)
    · rw [hb] at h2; cases h2
    · rw [hb] at h2
      simp only [if_true, Option.some.injEq] at h2
      exact ⟨rfl, by rw [h2]⟩
theorem scan_rise {cs : List Ct} (hF : FewC cs) (k : Nat) {i : Nat} {p q : Pr} (hp : (scanM cs k)[i]? = some p) (hq : (scanM cs k)[i + 1]? = some q) : kb p.key < kb q.key := by
  have h := (scan_read (fun c hc => by obtain ⟨i, hi⟩ := List.mem_iff_getElem?.1 hc; exact rise_pw (hF.1 i c hi).2.1) k p.key).1
  unfold RiseP at h
  rw [List.pairwise_iff_getElem] at h
  obtain ⟨h1, rfl⟩ := List.getElem?_eq_some_iff.1 hp
  obtain ⟨h2, rfl⟩ := List.getElem?_eq_some_iff.1 hq
  exact h i (i + 1) h1 h2 (by omega)
end Go.Proofs.Ytdeecdebhigafaa
