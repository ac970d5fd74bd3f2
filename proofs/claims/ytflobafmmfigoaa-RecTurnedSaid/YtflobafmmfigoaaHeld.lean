/- A REGION THAT DRAWS, IN ONE LINE: what is held may GROW on the way, so that a read of what a call has just made is taken first and no branch is left. -/
import Derived.Test.YtflobafmmfigoaaBase
import Derived.Deep.RegionHeld
namespace Go.Proofs.Ytflobafmmfigoaa
open Go Go.RowKit

theorem wpAnyH_stronger {P : Program} {ops : Array Oper} {Q : Exit → Act → World → Prop} {md : Region.Mode} {S S' : World → Prop} (hS : ∀ w, S' w → S w) :
    ∀ (fuel : Nat) (listed : Array Bool) (a : Act) (w : World), wpAnyH P md ops Q S' fuel listed a w → wpAnyH P md ops Q S fuel listed a w
  | 0, _, _, _, h => h
  | fuel + 1, _, _, _, h => ⟨h.1, fun i hi => wpOp_mono (fun a' w' h' => ⟨hS w' h'.1, wpAnyH_stronger hS fuel _ a' w' h'.2⟩) (h.2 i hi)⟩
set_option hygiene false in
theorem wpAnyH_more {P : Program} {ops : Array Oper} {Q : Exit → Act → World → Prop} {md : Region.Mode} {S S' : World → Prop} (hS : ∀ w, S' w → S w) {fuel : Nat} {listed : Array Bool} {a : Act} {w : World} (hw : S' w)
    (h : S' w → wpAnyH P md ops Q S' fuel listed a w) : wpAnyH P md ops Q S fuel listed a w := wpAnyH_stronger hS _ _ _ _ (h hw)
set_option hygiene false in
macro "h_lay" : tactic => `(tactic| (simp only [Act.put, List.getElem_toArray, List.getElem_cons_succ, List.getElem_cons_zero, List.setIfInBounds_toArray, List.set_cons_zero, List.set_cons_succ]))
set_option hygiene false in
/-- the beginning: 'S' of the world behind the draw -/
macro "h_start" S:term "," "(" h:tacticSeq ")" : tactic => `(tactic| (
  refine wp_region_held_drew (S := $S) (by kernel_rfl) ?_ (fun hHeld => ?_)
  · ($h)
  try (change wpAnyH _ _ _ _ _ _ _ _ (World.drew _))))
set_option hygiene false in
/-- number i is taken first; the facts that S pays are laid by the tactic behind 'by' ('hSw : S w') -/
macro "h_take" i:num "(" t:tacticSeq ")" : tactic => `(tactic| (
  refine wpAnyH_take (i := $i) (v := ?_) rfl (by kernel_rfl) (by kernel_rfl) (by kernel_rfl) (fun _ _ _ h => h) (Or.inl ⟨by rfl, ?_⟩) (by assumption) ?_
  rotate_left
  · intro w hSw
    ($t)
    go_simp
    try (with_reducible rfl)
  h_lay))
set_option hygiene false in
macro "h_take" i:num : tactic => `(tactic| h_take $i (skip))
set_option hygiene false in
/-- number i is not wanted -/
macro "h_skip" i:num : tactic => `(tactic| (
  refine wpAnyH_take (i := $i) (v := undef) rfl (by kernel_rfl) (by kernel_rfl) (by kernel_rfl) (fun _ _ _ h => h) (Or.inr ⟨by rfl, rfl⟩) (by assumption) ?_
  h_lay))
set_option hygiene false in
/-- number i comes up (alone): the arm, and S anew -/
macro "h_call" i:num "(" t:tacticSeq ")" "(" h:tacticSeq ")" : tactic => `(tactic| (
  refine wpAnyH_ready (rs := [$i]) (by kernel_rfl) (by simp) ?_
  refine AllReadyH.cons rfl (fun K hK => ?_) AllReadyH.nil
  go_simp
  ($t)
  refine hK.out _ _ ?_ ?_
  · ($h)
  intro hHeld
  clear hK K))
set_option hygiene false in
macro "h_more" S:term "," t:term "," "(" h:tacticSeq ")" : tactic => `(tactic| (
  refine wpAnyH_more (S' := $S) $t ?_ (fun hHeld2 => ?_)
  · ($h)))
set_option hygiene false in
macro "h_done" : tactic => `(tactic| refine wpAnyH_done (by kernel_rfl) ?_ _)
end Go.Proofs.Ytflobafmmfigoaa
