/- MODEL: both ways of laying a set over pairs come to the same. -/
import Derived.Test.YtdeecdebhigafaaMdlROver
namespace Go.Proofs.Ytdeecdebhigafaa
open Go Go.RowKit
set_option linter.unusedSimpArgs false

def RiseP (l : List Pr) : Prop := l.Pairwise fun a b => kb a.key < kb b.key
def RisePW (s : List Wr) : Prop := s.Pairwise fun a b => kb a.key < kb b.key
theorem rise_pw {s : List Wr} (h : RiseW s) : RisePW s := by
  unfold RisePW
  rw [List.pairwise_iff_getElem]
  intro i j hi hj hij
  exact rise_lt' h hij (List.getElem?_eq_getElem hi) (List.getElem?_eq_getElem hj)
theorem pw_rise {s : List Wr} (h : RisePW s) : RiseW s := by
  unfold RisePW at h
  rw [List.pairwise_iff_getElem] at h
  intro i x y hx hy
  obtain ⟨hi, rfl⟩ := List.getElem?_eq_some_iff.1 hx
  obtain ⟨hj, rfl⟩ := List.getElem?_eq_some_iff.1 hy
  exact h i (i + 1) hi hj (by omega)
/-- two rising lists of the same members are one -/
theorem rise_ext : ∀ {a b : List Pr}, RiseP a → RiseP b → (∀ p, p ∈ a ↔ p ∈ b) → a = b
  | [], [], _, _, _ => rfl
  | [], y :: b, _, _, h => by have := (h y).2 (by simp); simp at this
  | x :: a, [], _, _, h => by have := (h x).1 (by simp); simp at this
  | x :: a, y :: b, ha, hb, h => by
    have ha' := List.pairwise_cons.1 ha
    have hb' := List.pairwise_cons.1 hb
    have hxy : x = y := by
      have h1 := (h x).1 (by simp)
      have h2 := (h y).2 (by simp)
      rcases List.mem_cons.1 h1 with e | e
      · exact e
      · rcases List.mem_cons.1 h2 with e' | e'
        · exact e'.symm
        · exact absurd (ltL_trans (hb'.1 x e) (ha'.1 y e')) (ltL_irrefl _)
    subst hxy
    rw [rise_ext ha'.2 hb'.2 fun p => ?_]
    have hp := h p
    simp only [List.mem_cons] at hp
    constructor
    · intro hm
      rcases hp.1 (.inr hm) with e | e
      · subst e; exact absurd (ha'.1 p hm) (ltL_irrefl _)
      · exact e
    · intro hm
      rcases hp.2 (.inr hm) with e | e
      · subst e; exact absurd (hb'.1 p hm) (ltL_irrefl _)
      · exact e
def OverP (l : List Pr) (s : List Wr) (p : Pr) : Prop := (p ∈ l ∧ ∀ y ∈ s, kb y.key ≠ kb p.key) ∨ ∃ y ∈ s, y.gone = false ∧ p = ⟨y.key, y.text⟩
theorem emit_mem (w : Wr) (p : Pr) : p ∈ emit w ↔ w.gone = false ∧ p = ⟨w.key, w.text⟩ := by
  unfold emit
  cases w.gone <;> simp
/-- every key of what is laid over is a key of the one or the other -/
theorem overM_keys : ∀ (l : List Pr) (s : List Wr) (p : Pr), p ∈ overM l s → (∃ x ∈ l, kb x.key = kb p.key) ∨ ∃ y ∈ s, kb y.key = kb p.key := by
  intro l s
  induction l, s using overM.induct with
  | case1 => intro p h; rw [overM] at h; simp at h
  | case2 x l ih =>
    intro p h
    rw [overM] at h
    rcases List.mem_cons.1 h with e | e
    · exact .inl ⟨x, by simp, by rw [e]⟩
    · rcases ih p e with ⟨z, hz, hk⟩ | ⟨z, hz, hk⟩
      · exact .inl ⟨z, by simp [hz], hk⟩
      · simp at hz
  | case3 w s ih =>
    intro p h
    rw [overM] at h
    rcases List.mem_append.1 h with e | e
    · exact .inr ⟨w, by simp, by rw [((emit_mem w p).1 e).2]⟩
    · rcases ih p e with ⟨z, hz, hk⟩ | ⟨z, hz, hk⟩
      · simp at hz
      · exact .inr ⟨z, by simp [hz], hk⟩
  | case4 x l w s hlt ih =>
    intro p h
    rw [overM, if_pos hlt] at h
    rcases List.mem_cons.1 h with e | e
    · exact .inl ⟨x, by simp, by rw [e]⟩
    · rcases ih p e with ⟨z, hz, hk⟩ | ⟨z, hz, hk⟩
      · exact .inl ⟨z, by simp [hz], hk⟩
      · exact .inr ⟨z, hz, hk⟩
  | case5 x l w s hlt heq ih =>
    intro p h
    rw [overM, if_neg hlt, if_pos heq] at h
    rcases List.mem_append.1 h with e | e
    · exact .inr ⟨w, by simp, by rw [((emit_mem w p).1 e).2]⟩
    · rcases ih p e with ⟨z, hz, hk⟩ | ⟨z, hz, hk⟩
      · exact .inl ⟨z, by simp [hz], hk⟩
      · exact .inr ⟨z, by simp [hz], hk⟩
  | case6 x l w s hlt hne ih =>
    intro p h
    rw [overM, if_neg hlt, if_neg hne] at h
    rcases List.mem_append.1 h with e | e
    · exact .inr ⟨w, by simp, by rw [((emit_mem w p).1 e).2]⟩
    · rcases ih p e with ⟨z, hz, hk⟩ | ⟨z, hz, hk⟩
      · exact .inl ⟨z, hz, hk⟩
      · exact .inr ⟨z, by simp [hz], hk⟩
theorem rise_emit {w : Wr} {r : List Pr} (hr : RiseP r) (h : ∀ p ∈ r, kb w.key < kb p.key) : RiseP (emit w ++ r) := by
  unfold emit
  cases w.gone
  · exact List.pairwise_cons.2 ⟨h, hr⟩
  · exact hr
theorem overM_rise : ∀ (l : List Pr) (s : List Wr), RiseP l → RisePW s → RiseP (overM l s) := by
  intro l s
  induction l, s using overM.induct with
  | case1 => intro _ _; rw [overM]; exact List.Pairwise.nil
  | case2 x l ih =>
    intro hl hs
    have hl' := List.pairwise_cons.1 hl
    rw [overM]
    refine List.pairwise_cons.2 ⟨fun p hp => ?_, ih hl'.2 hs⟩
    rcases overM_keys _ _ p hp with ⟨z, hz, hk⟩ | ⟨z, hz, hk⟩
    · rw [← hk]; exact hl'.1 z hz
    · simp at hz
  | case3 w s ih =>
    intro hl hs
    have hs' := List.pairwise_cons.1 hs
    rw [overM]
    refine rise_emit (ih hl hs'.2) fun p hp => ?_
    rcases overM_keys _ _ p hp with ⟨z, hz, hk⟩ | ⟨z, hz, hk⟩
    · simp at hz
    · rw [← hk]; exact hs'.1 z hz
  | case4 x l w s hlt ih =>
    intro hl hs
    have hl' := List.pairwise_cons.1 hl
    have hs' := List.pairwise_cons.1 hs
    rw [overM, if_pos hlt]
    refine List.pairwise_cons.2 ⟨fun p hp => ?_, ih hl'.2 hs⟩
    rcases overM_keys _ _ p hp with ⟨z, hz, hk⟩ | ⟨z, hz, hk⟩
    · rw [← hk]; exact hl'.1 z hz
    · rw [← hk]
      rcases List.mem_cons.1 hz with e | e
      · rw [e]; exact hlt
      · exact ltL_trans hlt (hs'.1 z e)
  | case5 x l w s hlt heq ih =>
    intro hl hs
    have hl' := List.pairwise_cons.1 hl
    have hs' := List.pairwise_cons.1 hs
    rw [overM, if_neg hlt, if_pos heq]
    refine rise_emit (ih hl'.2 hs'.2) fun p hp => ?_
    rcases overM_keys _ _ p hp with ⟨z, hz, hk⟩ | ⟨z, hz, hk⟩
    · rw [← hk, ← heq]; exact hl'.1 z hz
    · rw [← hk]; exact hs'.1 z hz
  | case6 x l w s hlt hne ih =>
    intro hl hs
    have hl' := List.pairwise_cons.1 hl
    have hs' := List.pairwise_cons.1 hs
    have hgt : kb w.key < kb x.key := by
      rcases ltL_or (kb x.key) (kb w.key) with e | e | e
      · exact absurd e hlt
      · exact absurd e hne
      · exact e
    rw [overM, if_neg hlt, if_neg hne]
    refine rise_emit (ih hl hs'.2) fun p hp => ?_
    rcases overM_keys _ _ p hp with ⟨z, hz, hk⟩ | ⟨z, hz, hk⟩
    · rw [← hk]
      rcases List.mem_cons.1 hz with e | e
      · rw [e]; exact hgt
      · exact ltL_trans hgt (hl'.1 z e)
    · rw [← hk]; exact hs'.1 z hz
theorem overM_mem : ∀ (l : List Pr) (s : List Wr), RiseP l → RisePW s → ∀ p, p ∈ overM l s ↔ OverP l s p := by
  intro l s
  induction l, s using overM.induct with
  | case1 => intro _ _ p; rw [overM]; simp [OverP]
  | case2 x l ih =>
    intro hl hs p
    have hl' := List.pairwise_cons.1 hl
    rw [overM, List.mem_cons, ih hl'.2 hs p]
    simp [OverP]
  | case3 w s ih =>
    intro hl hs p
    have hs' := List.pairwise_cons.1 hs
    rw [overM, List.mem_append, emit_mem, ih hl hs'.2 p]
    simp [OverP]
  | case4 x l w s hlt ih =>
    intro hl hs p
    have hl' := List.pairwise_cons.1 hl
    have hs' := List.pairwise_cons.1 hs
    rw [overM, if_pos hlt, List.mem_cons, ih hl'.2 hs p]
    unfold OverP
    have hx : ∀ y ∈ w :: s, kb y.key ≠ kb x.key := fun y hy e => by
      rcases List.mem_cons.1 hy with e' | e'
      · rw [e'] at e; rw [e] at hlt; exact ltL_irrefl _ hlt
      · have := ltL_trans hlt (hs'.1 y e'); rw [e] at this; exact ltL_irrefl _ this
    constructor
    · rintro (e | ⟨h1, h2⟩ | h)
      · subst e; exact .inl ⟨by simp, hx⟩
      · exact .inl ⟨by simp [h1], h2⟩
      · exact .inr h
    · rintro (⟨h1, h2⟩ | h)
      · rcases List.mem_cons.1 h1 with e | e
        · exact .inl e
        · exact .inr (.inl ⟨e, h2⟩)
      · exact .inr (.inr h)
  | case5 x l w s hlt heq ih =>
    intro hl hs p
    have hl' := List.pairwise_cons.1 hl
    have hs' := List.pairwise_cons.1 hs
    rw [overM, if_neg hlt, if_pos heq, List.mem_append, emit_mem, ih hl'.2 hs'.2 p]
    unfold OverP
    constructor
    · rintro (⟨h1, h2⟩ | ⟨h1, h2⟩ | ⟨y, hy, h1, h2⟩)
      · exact .inr ⟨w, by simp, h1, h2⟩
      · refine .inl ⟨by simp [h1], fun y hy => ?_⟩
        rcases List.mem_cons.1 hy with e | e
        · subst e; intro e; have := hl'.1 p h1; rw [heq, e] at this; exact ltL_irrefl _ this
        · exact h2 y e
      · exact .inr ⟨y, by simp [hy], h1, h2⟩
    · rintro (⟨h1, h2⟩ | ⟨y, hy, h1, h2⟩)
      · rcases List.mem_cons.1 h1 with e | e
        · subst e; exact absurd heq.symm (h2 w (by simp))
        · exact .inr (.inl ⟨e, fun y hy => h2 y (by simp [hy])⟩)
      · rcases List.mem_cons.1 hy with e | e
        · subst e; exact .inl ⟨h1, h2⟩
        · exact .inr (.inr ⟨y, e, h1, h2⟩)
  | case6 x l w s hlt hne ih =>
    intro hl hs p
    have hl' := List.pairwise_cons.1 hl
    have hs' := List.pairwise_cons.1 hs
    have hgt : kb w.key < kb x.key := by
      rcases ltL_or (kb x.key) (kb w.key) with e | e | e
      · exact absurd e hlt
      · exact absurd e hne
      · exact e
    rw [overM, if_neg hlt, if_neg hne, List.mem_append, emit_mem, ih hl hs'.2 p]
    unfold OverP
    constructor
    · rintro (⟨h1, h2⟩ | ⟨h1, h2⟩ | ⟨y, hy, h1, h2⟩)
      · exact .inr ⟨w, by simp, h1, h2⟩
      · refine .inl ⟨h1, fun y hy => ?_⟩
        rcases List.mem_cons.1 hy with e | e
        · subst e; intro e
          rcases List.mem_cons.1 h1 with e' | e'
          · rw [e'] at e; rw [e] at hgt; exact ltL_irrefl _ hgt
          · have := ltL_trans hgt (hl'.1 p e'); rw [e] at this; exact ltL_irrefl _ this
        · exact h2 y e
      · exact .inr ⟨y, by simp [hy], h1, h2⟩
    · rintro (⟨h1, h2⟩ | ⟨y, hy, h1, h2⟩)
      · exact .inr (.inl ⟨h1, fun y hy => h2 y (by simp [hy])⟩)
      · rcases List.mem_cons.1 hy with e | e
        · subst e; exact .inl ⟨h1, h2⟩
        · exact .inr (.inr ⟨y, e, h1, h2⟩)
theorem put_mem (p : Pr) : ∀ (l : List Pr) (d : Bool) (q : Pr), q ∈ putAux d l p ↔ (q ∈ l ∧ kb q.key ≠ kb p.key) ∨ (d = false ∧ q = p)
  | [], d, q => by cases d <;> simp [putAux]
  | x :: l, d, q => by
    rw [putAux, List.mem_append, List.mem_append, put_mem p l _ q]
    by_cases h1 : kb x.key < kb p.key
    · have h2 : kb x.key ≠ kb p.key := fun e => by rw [e] at h1; exact ltL_irrefl _ h1
      simp only [h1, h2, decide_true, Bool.not_true, Bool.and_false, Bool.or_false, if_false, List.mem_cons, List.not_mem_nil, or_false, false_or, Bool.false_eq_true]
      constructor
      · rintro (e | ⟨e, h⟩ | h)
        · subst e; exact .inl ⟨.inl rfl, h2⟩
        · exact .inl ⟨.inr e, h⟩
        · exact .inr h
      · rintro (⟨e | e, h⟩ | h)
        · exact .inl e
        · exact .inr (.inl ⟨e, h⟩)
        · exact .inr (.inr h)
    · by_cases h2 : kb x.key = kb p.key
      · cases d <;> simp [h1, h2] <;> grind
      · cases d <;> simp [h1, h2] <;> grind
theorem put_true (p : Pr) : ∀ l : List Pr, putAux true l p = l.filter fun x => !decide (kb x.key = kb p.key)
  | [] => by simp [putAux]
  | x :: l => by
    rw [putAux, Bool.true_or, put_true p l, List.filter_cons]
    by_cases h2 : kb x.key = kb p.key <;> simp [h2]
theorem put_rise (p : Pr) : ∀ l : List Pr, RiseP l → RiseP (putAux false l p)
  | [], _ => by simp [putAux, RiseP]
  | x :: l, h => by
    have h' := List.pairwise_cons.1 h
    rw [putAux]
    by_cases h1 : kb x.key < kb p.key
    · have h2 : kb x.key ≠ kb p.key := fun e => by rw [e] at h1; exact ltL_irrefl _ h1
      simp only [h1, h2, decide_true, Bool.not_true, Bool.and_false, Bool.or_false, if_false, Bool.false_eq_true, List.nil_append, List.singleton_append]
      refine List.pairwise_cons.2 ⟨fun q hq => ?_, put_rise p l h'.2⟩
      rcases (put_mem p l false q).1 hq with ⟨e, _⟩ | ⟨_, e⟩
      · exact h'.1 q e
      · rw [e]; exact h1
    · have hge : ∀ q ∈ l, kb p.key < kb q.key := fun q hq => by
        rcases ltL_or (kb x.key) (kb p.key) with e | e | e
        · exact absurd e h1
        · rw [← e]; exact h'.1 q hq
        · exact ltL_trans e (h'.1 q hq)
      have hp : RiseP (putAux true l p) := by rw [put_true]; exact h'.2.filter _
      have hgp : ∀ q ∈ putAux true l p, kb p.key < kb q.key := fun q hq => by
        rw [put_true] at hq; exact hge q (List.mem_filter.1 hq).1
      by_cases h2 : kb x.key = kb p.key
      · simp only [h1, h2, ltL_irrefl, decide_false, Bool.not_false, Bool.and_true, Bool.or_true, if_true, List.nil_append, List.singleton_append]
        exact List.pairwise_cons.2 ⟨hgp, hp⟩
      · have hxp : kb p.key < kb x.key := by
          rcases ltL_or (kb x.key) (kb p.key) with e | e | e
          · exact absurd e h1
          · exact absurd e h2
          · exact e
        simp only [h1, h2, decide_false, Bool.not_false, Bool.and_true, Bool.or_true, if_true, if_false, List.singleton_append]
        refine List.pairwise_cons.2 ⟨fun q hq => ?_, List.pairwise_cons.2 ⟨fun q hq => ?_, hp⟩⟩
        · rcases List.mem_cons.1 hq with e | e
          · rw [e]; exact hxp
          · exact hgp q e
        · rw [put_true] at hq; exact h'.1 q (List.mem_filter.1 hq).1
theorem putW_rise {acc : List Pr} (y : Wr) (h : RiseP acc) : RiseP (putW acc y) := by
  unfold putW
  split
  · exact h
  · exact put_rise _ _ h
theorem fold_rise : ∀ (s : List Wr) (acc : List Pr), RiseP acc → RiseP (s.foldl putW acc)
  | [], _, h => h
  | y :: s, _, h => fold_rise s _ (putW_rise y h)
theorem fold_mem (p : Pr) : ∀ (s : List Wr) (acc : List Pr), RisePW s → (p ∈ s.foldl putW acc ↔ (p ∈ acc ∧ ∀ y ∈ s, y.gone = false → kb y.key ≠ kb p.key) ∨ ∃ y ∈ s, y.gone = false ∧ p = ⟨y.key, y.text⟩)
  | [], _, _ => by simp
  | y :: s, _, hs => by
    have hs' := List.pairwise_cons.1 hs
    rw [List.foldl_cons, fold_mem p s _ hs'.2]
    unfold putW
    cases hg : y.gone
    · simp only [Bool.false_eq_true, if_false]
      rw [put_mem]
      constructor
      · rintro (⟨⟨h1, h2⟩ | ⟨_, h1⟩, h3⟩ | ⟨z, hz, h1, h2⟩)
        · refine .inl ⟨h1, fun z hz hzg => ?_⟩
          rcases List.mem_cons.1 hz with e | e
          · subst e; exact fun e => h2 e.symm
          · exact h3 z e hzg
        · exact .inr ⟨y, by simp, hg, h1⟩
        · exact .inr ⟨z, by simp [hz], h1, h2⟩
      · rintro (⟨h1, h2⟩ | ⟨z, hz, h1, h2⟩)
        · exact .inl ⟨.inl ⟨h1, fun e => h2 y (by simp) hg e.symm⟩, fun z hz hzg => h2 z (by simp [hz]) hzg⟩
        · rcases List.mem_cons.1 hz with e | e
          · subst e
            refine .inl ⟨.inr ⟨rfl, h2⟩, fun u hu _ e => ?_⟩
            have := hs'.1 u hu
            rw [h2] at e
            rw [e] at this; exact ltL_irrefl _ this
          · exact .inr ⟨z, e, h1, h2⟩
    · simp only [if_true]
      constructor
      · rintro (⟨h1, h3⟩ | ⟨z, hz, h1, h2⟩)
        · refine .inl ⟨h1, fun z hz hzg => ?_⟩
          rcases List.mem_cons.1 hz with e | e
          · subst e; rw [hg] at hzg; cases hzg
          · exact h3 z e hzg
        · exact .inr ⟨z, by simp [hz], h1, h2⟩
      · rintro (⟨h1, h2⟩ | ⟨z, hz, h1, h2⟩)
        · exact .inl ⟨h1, fun z hz hzg => h2 z (by simp [hz]) hzg⟩
        · rcases List.mem_cons.1 hz with e | e
          · subst e; rw [hg] at h1; cases h1
          · exact .inr ⟨z, e, h1, h2⟩
theorem getS_none {s : List Wr} {key : ByteArray} : getS s key = none ↔ ∀ y ∈ s, kb y.key ≠ kb key := by
  unfold getS
  rw [List.find?_eq_none]
  exact ⟨fun h y hy e => h y hy (by simpa using e), fun h y hy e => h y hy (by simpa using e)⟩
theorem over_eq {l : List Pr} {s : List Wr} (hl : RiseP l) (hs : RisePW s) : overM l s = overR l s := by
  refine rise_ext (overM_rise l s hl hs) (fold_rise s _ (hl.filter _)) fun p => ?_
  rw [overM_mem l s hl hs p]
  unfold overR OverP
  rw [fold_mem p s _ hs]
  unfold keepL
  rw [List.mem_filter, Option.isNone_iff_eq_none, getS_none]
  constructor
  · rintro (⟨h1, h2⟩ | h)
    · exact .inl ⟨⟨h1, h2⟩, fun y hy _ => h2 y hy⟩
    · exact .inr h
  · rintro (⟨⟨h1, h2⟩, _⟩ | h)
    · exact .inl ⟨h1, h2⟩
    · exact .inr h
theorem overR_rise {l : List Pr} {s : List Wr} (hl : RiseP l) : RiseP (overR l s) := fold_rise s _ (hl.filter _)
end Go.Proofs.Ytdeecdebhigafaa
