/- A REGION THAT DRAWS, IN ONE LINE: what is held may GROW on the way, so that a read of what a call has just made is taken first and no branch is left. -/
import Derived.Test.YtdeecdebhigafaaBase
import Derived.Deep.RegionHeld
namespace Go.Proofs.Ytdeecdebhigafaa
open Go Go.RowKit

theorem wpAnyH_stronger {P : Program} {ops : Array Oper} {Q : Exit → Act → World → Prop} {md : Region.Mode} {S S' : World → Prop} (hS : ∀ w, S' w → S w) :
    ∀ (fuel : Nat) (listed : Array Bool) (a : Act) (w : World), wpAnyH P md ops Q S' fuel listed a w → wpAnyH P md ops Q S fuel listed a w
  | 0, _, _, _, h => h
  | fuel + 1, _, _, _, h => ⟨h.1, fun i hi => wpOp_mono (fun a' w' h' => ⟨hS w' h'.1, wpAnyH_stronger hS fuel _ a' w' h'.2⟩) (h.2 i hi)⟩
theorem wpAnyH_more {P : Program} {ops : Array Oper} {Q : Exit → Act → World → Prop} {md : Region.Mode} {S S' : World → Prop} (hS : ∀ w, S' w → S w) {fuel : Nat} {listed : Array Bool} {a : Act} {w : World} (hw : S' w)
    (h : S' w → wpAnyH P md ops Q S' fuel listed a w) : wpAnyH P md ops Q S fuel listed a w := wpAnyH_stronger hS _ _ _ _ (h hw)
end Go.Proofs.Ytdeecdebhigafaa
