/- MODEL: commits as they lie in memory; the last stamp. -/
import Derived.Test.YtdeecdebhigafaaMdlMath
namespace Go.Proofs.Ytdeecdebhigafaa
open Go Go.RowKit
set_option linter.unusedSimpArgs false

/-- a commit's two cells -/
structure Cl where
  stamp : Nat
  a : Option Addr
  n : Nat
  cap : Nat
def EC : Wide Cl := ⟨fun x => [.int .u64 x.stamp, .slice x.a x.n x.cap], 2, fun _ => rfl, fun x u hu => by simp at hu; rcases hu with rfl | rfl <;> rfl, by omega⟩
/-- a commit, as a value -/
structure Ct where
  stamp : Nat
  set : List Wr
/-- a slice of commits reads as a list, its sets with it -/
def Coms (w : World) (v : Value) (cs : List Ct) : Prop :=
  ∃ l : List Cl, Rows EC w v l ∧ l.length = cs.length ∧ ∀ (i : Nat) x c, l[i]? = some x → cs[i]? = some c → x.stamp = c.stamp ∧ Rows EW w (.slice x.a x.n x.cap) c.set
theorem Coms.below {w w' : World} {v : Value} {cs : List Ct} (h : Coms w v cs) (hb : Below w.heap.size w w') : Coms w' v cs := by
  obtain ⟨l, h1, h2, h3⟩ := h
  exact ⟨l, h1.below hb, h2, fun i x c hx hc => ⟨(h3 i x c hx hc).1, (h3 i x c hx hc).2.below hb⟩⟩
theorem Coms.alloc {w : World} {v : Value} {cs : List Ct} (h : Coms w v cs) (o : Obj) : Coms (w.alloc o) v cs := h.below ((Below.refl w.heap.size w).alloc (Nat.le_refl _) o)
theorem Coms.drewN {w : World} {v : Value} {cs : List Ct} (h : Coms w v cs) (n : Nat) : Coms (w.drewN n) v cs := h
theorem Coms.slice {w : World} {v : Value} {cs : List Ct} (h : Coms w v cs) : ∃ a cap, v = .slice a cs.length cap := by
  obtain ⟨l, h1, h2, _⟩ := h
  obtain ⟨a, c, e⟩ := h1.slice
  exact ⟨a, c, by rw [e, h2]⟩
theorem Coms.cap_le {w : World} {a : Option Addr} {n cap : Nat} {cs : List Ct} (h : Coms w (.slice a n cap) cs) : cs.length ≤ cap := by
  obtain ⟨l, h1, h2, _⟩ := h
  have := h1.cap_le; omega
theorem Coms.le {w : World} {v : Value} {cs : List Ct} (h : Coms w v cs) : cs.length ≤ 140737488351232 := by
  obtain ⟨l, h1, h2, _⟩ := h
  have := h1.le; omega
theorem Coms.c2 {w : World} {a : Option Addr} {n cap k : Nat} {cs : List Ct} {c : Ct} (h : Coms w (.slice a n cap) cs) (hc : cs[k]? = some c) :
    ∃ b off sa sn sc, a = some ⟨b, off, none⟩ ∧ n = cs.length ∧ w.cell? ⟨b, off + k * 2, none⟩ = some (.int .u64 c.stamp) ∧ w.cell? ⟨b, off + k * 2 + 1, none⟩ = some (.slice sa sn sc) ∧ Rows EW w (.slice sa sn sc) c.set := by
  obtain ⟨l, h1, h2, h3⟩ := h
  obtain ⟨x, hx⟩ : ∃ x, l[k]? = some x := ⟨_, List.getElem?_eq_getElem (by have := (List.getElem?_eq_some_iff.1 hc).1; omega)⟩
  obtain ⟨e, hr⟩ := h3 k x c hx hc
  have hn : 0 < l.length := by have := (List.getElem?_eq_some_iff.1 hx).1; omega
  obtain ⟨b, off, rfl, _, hcell⟩ := h1.at_ hn
  exact ⟨b, off, x.a, x.n, x.cap, rfl, by rw [h1.len_eq, h2], by rw [← e]; exact hcell k x hx 0 _ rfl, hcell k x hx 1 _ rfl, hr⟩
def lastN (cs : List Ct) : Nat := match cs.getLast? with | some c => c.stamp | none => 0
end Go.Proofs.Ytdeecdebhigafaa
