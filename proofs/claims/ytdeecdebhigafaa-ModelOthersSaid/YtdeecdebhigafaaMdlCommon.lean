/- MODEL: words for the walks of the laws. -/
import Derived.Test.YtdeecdebhigafaaMdlPlain
namespace Go.Proofs.Ytdeecdebhigafaa
open Go Go.RowKit

/-- an array of two words, in its box -/
def AtB (z n m : Nat) (W : World) : Prop := W.cell? ⟨z, 0, none⟩ = some (.int .u64 (n : Int)) ∧ W.cell? ⟨z, 1, none⟩ = some (.int .u64 (m : Int))
theorem AtB.below {z n m : Nat} {W W' : World} (h : AtB z n m W) (hb : Below W.heap.size W W') : AtB z n m W' :=
  ⟨(hb.cell (p := ⟨z, 0, none⟩) (World.block_lt_of_cell? _ _ h.1)).trans h.1, (hb.cell (p := ⟨z, 1, none⟩) (World.block_lt_of_cell? _ _ h.2)).trans h.2⟩
theorem AtB.alloc {z n m : Nat} {W : World} (h : AtB z n m W) (o : Obj) : AtB z n m (W.alloc o) := h.below ((Below.refl _ W).alloc (Nat.le_refl _) o)
theorem AtB.drew {z n m : Nat} {W : World} (h : AtB z n m W) : AtB z n m W.drew := h
theorem rise_nil : RiseW [] := fun i x y h => by cases h
theorem read_at (v : Value) (cs : List Ct) (key : ByteArray) (at' : Nat) (n : Int) (hn : n = (at' : Int)) (w : World) (hI : Coms w v cs) (hF : ∀ (i : Nat) c, cs[i]? = some c → RiseW c.set) :
    Calls Try.prog 28 #[v, .string key, .int .u64 n] w fun e w' => e = .returned (.tuple #[.string (seenT (readO cs key at')), .bool (seenB (readO cs key at'))]) ∧ Below w.heap.size w w' := by
  subst hn
  exact read_calls v cs key at' w hI hF
theorem Coms.drew {w : World} {v : Value} {cs : List Ct} (h : Coms w v cs) : Coms w.drew v cs := h
theorem FewC.rises {cs : List Ct} (h : FewC cs) : ∀ (i : Nat) c, cs[i]? = some c → RiseW c.set := fun i c hc => (h.1 i c hc).2.1
theorem FewA.le60 {cs : List Ct} (h : FewA cs) : ∀ c ∈ cs, c.set.length ≤ 60 := fun c hc => by
  obtain ⟨i, hi⟩ := List.mem_iff_getElem?.1 hc
  exact (h.1 i c hi).2
theorem FewA.fewC {cs : List Ct} (h : FewA cs) (hst : ∀ c ∈ cs, c.stamp < 18446744073709551616) : FewC cs :=
  ⟨fun i c hi => ⟨(h.1 i c hi).2, h.2.2.1 i c hi, hst c (List.mem_of_getElem? hi)⟩, by have := h.2.1; omega⟩
end Go.Proofs.Ytdeecdebhigafaa
