/- MODEL: pairs, with a set over them: the program's way. -/
import Derived.Test.YtdeecdebhigafaaMdlSame
namespace Go.Proofs.Ytdeecdebhigafaa
open Go Go.RowKit

theorem Rows.tailIf {α : Type} {E : Wide α} {w : World} {b off n cap : Nat} {x : α} {l : List α} (h : Rows E w (.slice (some ⟨b, off, none⟩) n cap) (x :: l)) :
    Rows E w (.slice (if cap = 1 then some ⟨b, off, none⟩ else some ⟨b, off + E.k, none⟩) l.length (cap - 1)) l := by
  by_cases hc : cap = 1
  · have := h.cap_le
    have h0 : l = [] := List.eq_nil_of_length_eq_zero (by simp at this; omega)
    subst h0
    exact Rows.nil_ _ _
  · rw [if_neg hc]
    exact h.tail
def emit (w : Wr) : List Pr := if w.gone then [] else [⟨w.key, w.text⟩]
def overM : List Pr → List Wr → List Pr
  | [], [] => []
  | p :: l, [] => p :: overM l []
  | [], w :: s => emit w ++ overM [] s
  | p :: l, w :: s => if kb p.key < kb w.key then p :: overM l (w :: s) else if kb p.key = kb w.key then emit w ++ overM l s else emit w ++ overM (p :: l) s
termination_by l s => l.length + s.length
def lenV : Value → Nat
  | .slice _ n _ => n
  | _ => 0
set_option maxHeartbeats 1600000 in
set_option maxRecDepth 100000 in
theorem over_calls (v u : Value) (l : List Pr) (s : List Wr) (N : Nat) (w : World) (hI : Rows EP w v l) (hJ : Rows EW w u s) (hN : l.length + s.length ≤ N) (hN' : N ≤ 100000) :
    Calls Try.prog 30 #[v, u] w fun e w' => ∃ v', e = .returned v' ∧ OwnR EP 60 w' w.heap.size v' (overM l s) ∧ (overM l s).length ≤ N ∧ Below w.heap.size w w' := by
  have HI := Lib.hid hI
  have HJ := Lib.hid hJ
  have HN := Lib.hid hN
  clear hI hJ hN
  go_enter Try.func30, Try.ntmps30
  go_wp2
  go_loopw [0, 1, 5, 6] (fun lv sv ov _ wr => ∃ (l' : List Pr) (s' : List Wr) (out : List Pr), Rows EP w lv l' ∧ Rows EW w sv s' ∧ OwnR EP 60 wr w.heap.size ov out ∧ out ++ overM l' s' = overM l s ∧ out.length + l'.length + s'.length ≤ N ∧ Below w.heap.size w wr) (fun lv sv _ _ _ => lenV lv + lenV sv)
  case atStart => exact ⟨l, s, [], HI.out, HJ.out, OwnR.nil_ _ _ _ _, rfl, by have := HN.out; simpa using this, Below.refl _ _⟩
  case round =>
    obtain ⟨l', s', out, hl, hs, hown, heq, hlen, hbw⟩ := hrel
    obtain ⟨la, lc, rfl⟩ := hl.slice
    obtain ⟨sa, sc, rfl⟩ := hs.slice
    obtain ⟨oa, oc, rfl⟩ := hown.slice
    have HL := Lib.hid hl
    have HS := Lib.hid hs
    have HOWN := Lib.hid hown
    have HEQ := Lib.hid heq
    have HLEN := Lib.hid hlen
    have HBW := Lib.hid hbw
    have hlc := hl.cap_le
    have hsc := hs.cap_le
    have hll := hl.le
    have hsl := hs.le
    clear hl hs hown heq hlen hbw
    cases l' with
    | nil =>
      cases s' with
      | nil =>
        have HE : Hid (out = overM l s) := Lib.hid (by have := HEQ.out; rw [overM, List.append_nil] at this; exact this)
        have HLN : Hid (out.length ≤ N) := Lib.hid (by have := HLEN.out; simpa using this)
        go_wp2
        go_ret
        exact ⟨_, rfl, by rw [← HE.out]; exact HOWN.out, by rw [← HE.out]; exact HLN.out, HBW.out⟩
      | cons y s' =>
        obtain ⟨b', off', rfl, hz', hd0, hd1, hd2⟩ := (HS.out.below HBW.out).w3 (k := 0) rfl
        simp only [Nat.zero_mul, Nat.add_zero] at hd0 hd1 hd2
        have HE : Hid (out ++ emit y ++ overM [] s' = overM l s) := Lib.hid (by have := HEQ.out; rw [overM, ← List.append_assoc] at this; exact this)
        have t0 : ((s'.length : Int) + 1 == 0) = false := by rw [beq_eq_false_iff_ne]; omega
        simp only [List.length_cons, List.length_nil] at HL HS HLEN hlc hsc hll hsl ⊢
        clear hz' HEQ
        obtain ⟨yk, yt, yg⟩ := y
        simp only at hd0 hd1 hd2
        cases yg
        · simp only [emit, Bool.false_eq_true, if_false] at HE
          go_wp2
          go_quiet (fail)
          replace hd0 : (wr.drewN nq).cell? ⟨b', off', none⟩ = some (.string yk) := hd0
          replace hd1 : (wr.drewN nq).cell? ⟨b', off' + 1, none⟩ = some (.string yt) := hd1
          replace hd2 : (wr.drewN nq).cell? ⟨b', off' + 2, none⟩ = some (.bool false) := hd2
          replace HOWN : Hid (OwnR EP 60 (wr.drewN nq) w.heap.size (Value.slice oa out.length oc) out) := Lib.hid HOWN.out
          replace HBW : Hid (Below w.heap.size w (wr.drewN nq)) := Lib.hid (below_drewN HBW.out nq)
          generalize wr.drewN nq = W at *
          go_upto_region 8 with fail
          have hsr : Rows EW w (.slice (if sc = 1 then some ⟨b', off', none⟩ else some ⟨b', off' + 3, none⟩) s'.length (sc - 1)) s' := HS.out.tailIf
          generalize (if sc = 1 then some (⟨b', off', none⟩ : Addr) else some ⟨b', off' + 3, none⟩) = sa' at hsr ⊢
          have HSR := Lib.hid hsr
          clear hsr
          go_quiet (fail)
          have HNEW : Hid (Rows EP (((W.alloc (.cells #[.string yk, .string yt, .bool false] 70)).drewN nq).alloc (.cells #[.string yk, .string yt] 60)) (.slice (some ⟨(W.heap.size + 1), 0, none⟩) 1 1) [⟨yk, yt⟩]) := Lib.hid (by have e := rows_new EP ((W.alloc (.cells #[.string yk, .string yt, .bool false] 70)).drewN nq) 60 ⟨yk, yt⟩; rw [show ((W.alloc (.cells #[.string yk, .string yt, .bool false] 70)).drewN nq).heap.size = W.heap.size + 1 from World.size_alloc _ _] at e; exact e)
          go_wp2_with (at_builtin; refine wpList_growR rfl (.tmp 64) (.tmp 70) 48 rfl rowP w.heap.size _ out rfl (((HOWN.out.alloc _).drewN _).alloc _) _ [⟨yk, yt⟩] rfl HNEW.out 100001 ?c2 ⟨by simp [maxLen], by omega⟩ ?c1 ?_; (case c1 => (have := HBW.out.size; simp; omega)); (case c2 => (have := HLEN.out; simp; omega)); intro A4 c4 w4 hown4 hb4; have HOWN4 := Lib.hid hown4; have HB4 := Lib.hid hb4; clear hown4 hb4)
          go_roundw
          case rel => exact ⟨_, _, out ++ [⟨yk, yt⟩], HL.out, HSR.out, HOWN4.out, HE.out, by have := HLEN.out; simp; omega, (((below_drewN (HBW.out.alloc HBW.out.size _) _).alloc (by have := HBW.out.size; simp; omega) _)).trans HB4.out⟩
          case measure => simp [lenV]
        · simp only [emit, if_true, List.append_nil] at HE
          go_wp2
          go_quiet (fail)
          replace hd0 : (wr.drewN nq).cell? ⟨b', off', none⟩ = some (.string yk) := hd0
          replace hd1 : (wr.drewN nq).cell? ⟨b', off' + 1, none⟩ = some (.string yt) := hd1
          replace hd2 : (wr.drewN nq).cell? ⟨b', off' + 2, none⟩ = some (.bool true) := hd2
          replace HOWN : Hid (OwnR EP 60 (wr.drewN nq) w.heap.size (Value.slice oa out.length oc) out) := Lib.hid HOWN.out
          replace HBW : Hid (Below w.heap.size w (wr.drewN nq)) := Lib.hid (below_drewN HBW.out nq)
          generalize wr.drewN nq = W at *
          go_upto_region 8 with fail
          have hsr : Rows EW w (.slice (if sc = 1 then some ⟨b', off', none⟩ else some ⟨b', off' + 3, none⟩) s'.length (sc - 1)) s' := HS.out.tailIf
          generalize (if sc = 1 then some (⟨b', off', none⟩ : Addr) else some ⟨b', off' + 3, none⟩) = sa' at hsr ⊢
          have HSR := Lib.hid hsr
          clear hsr
          go_quiet (fail)
          go_wp2
          go_roundw
          case rel => exact ⟨_, _, out, HL.out, HSR.out, (HOWN.out.alloc _).drewN _, HE.out, by have := HLEN.out; simp; omega, below_drewN (HBW.out.alloc HBW.out.size _) _⟩
          case measure => simp [lenV]
    | cons x l' =>
      obtain ⟨b, off, rfl, hz, hc0, hc1⟩ := (HL.out.below HBW.out).p2 (k := 0) rfl
      simp only [Nat.zero_mul, Nat.add_zero] at hc0 hc1
      cases s' with
      | nil =>
        have HE : Hid (out ++ [x] ++ overM l' [] = overM l s) := Lib.hid (by have := HEQ.out; rw [overM] at this; simpa using this)
        simp only [List.length_cons, List.length_nil] at HL HS HLEN hlc hsc hll hsl ⊢
        clear hz HEQ
        go_wp2
        go_quiet (fail)
        have HNEW : Hid (Rows EP ((wr.drewN nq).alloc (.cells #[.string x.key, .string x.text] 60)) (.slice (some ⟨wr.heap.size, 0, none⟩) 1 1) [⟨x.key, x.text⟩]) := Lib.hid (by have e := rows_new EP (wr.drewN nq) 60 ⟨x.key, x.text⟩; exact e)
        go_wp2_with (at_builtin; refine wpList_growR rfl (.tmp 34) (.tmp 38) 48 rfl rowP w.heap.size _ out rfl ((HOWN.out.drewN _).alloc _) _ [⟨x.key, x.text⟩] rfl HNEW.out 100001 ?c2 ⟨by simp [maxLen], by omega⟩ ?c1 ?_; (case c1 => (have := HBW.out.size; simp; omega)); (case c2 => (have := HLEN.out; simp; omega)); intro A4 c4 w4 hown4 hb4; have HOWN4 := Lib.hid hown4; have HB4 := Lib.hid hb4; clear hown4 hb4)
        go_roundw
        case rel => exact ⟨l', _, out ++ [x], HL.out.tailIf, HS.out, HOWN4.out, HE.out, by have := HLEN.out; simp; omega, ((below_drewN HBW.out _).alloc (by have := HBW.out.size; simpa using this) _).trans HB4.out⟩
        case measure => simp [lenV]
      | cons y s' =>
        obtain ⟨b', off', rfl, hz', hd0, hd1, hd2⟩ := (HS.out.below HBW.out).w3 (k := 0) rfl
        simp only [Nat.zero_mul, Nat.add_zero] at hd0 hd1 hd2
        clear hz hz'
        have t0 : ((s'.length : Int) + 1 == 0) = false := by rw [beq_eq_false_iff_ne]; omega
        by_cases hlt : kb x.key < kb y.key
        · have t1 : Op.bytesLess x.key.toList y.key.toList = true := by rw [less_eq]; exact decide_eq_true hlt
          have HE : Hid (out ++ [x] ++ overM l' (y :: s') = overM l s) := Lib.hid (by have := HEQ.out; rw [overM, if_pos hlt] at this; simpa using this)
          simp only [List.length_cons] at HL HS HLEN hlc hsc hll hsl ⊢
          clear hlt HEQ
          go_wp2
          go_quiet (fail)
          have HNEW : Hid (Rows EP ((wr.drewN nq).alloc (.cells #[.string x.key, .string x.text] 60)) (.slice (some ⟨wr.heap.size, 0, none⟩) 1 1) [⟨x.key, x.text⟩]) := Lib.hid (by have e := rows_new EP (wr.drewN nq) 60 ⟨x.key, x.text⟩; exact e)
          go_wp2_with (at_builtin; refine wpList_growR rfl (.tmp 34) (.tmp 38) 48 rfl rowP w.heap.size _ out rfl ((HOWN.out.drewN _).alloc _) _ [⟨x.key, x.text⟩] rfl HNEW.out 100001 ?c2 ⟨by simp [maxLen], by omega⟩ ?c1 ?_; (case c1 => (have := HBW.out.size; simp; omega)); (case c2 => (have := HLEN.out; simp; omega)); intro A4 c4 w4 hown4 hb4; have HOWN4 := Lib.hid hown4; have HB4 := Lib.hid hb4; clear hown4 hb4)
          go_roundw
          case rel => exact ⟨l', _, out ++ [x], HL.out.tailIf, HS.out, HOWN4.out, HE.out, by have := HLEN.out; simp; omega, ((below_drewN HBW.out _).alloc (by have := HBW.out.size; simpa using this) _).trans HB4.out⟩
          case measure => simp [lenV]
        · have t1 : Op.bytesLess x.key.toList y.key.toList = false := by rw [less_eq]; exact decide_eq_false hlt
          by_cases hke : kb x.key = kb y.key
          · have t2 : (x.key.toList == y.key.toList) = true := by rw [beq_iff_eq]; exact hke
            have HE : Hid (out ++ emit y ++ overM l' s' = overM l s) := Lib.hid (by have := HEQ.out; rw [overM, if_neg hlt, if_pos hke, ← List.append_assoc] at this; exact this)
            simp only [List.length_cons] at HL HS HLEN hlc hsc hll hsl ⊢
            clear hlt hke HEQ
            obtain ⟨yk, yt, yg⟩ := y
            simp only at hd0 hd1 hd2
            cases yg
            · simp only [emit, Bool.false_eq_true, if_false] at HE
              go_wp2
              go_quiet (fail)
              replace hc0 : (wr.drewN nq).cell? ⟨b, off, none⟩ = some (.string x.key) := hc0
              replace hc1 : (wr.drewN nq).cell? ⟨b, off + 1, none⟩ = some (.string x.text) := hc1
              replace hd0 : (wr.drewN nq).cell? ⟨b', off', none⟩ = some (.string yk) := hd0
              replace hd1 : (wr.drewN nq).cell? ⟨b', off' + 1, none⟩ = some (.string yt) := hd1
              replace hd2 : (wr.drewN nq).cell? ⟨b', off' + 2, none⟩ = some (.bool false) := hd2
              replace HOWN : Hid (OwnR EP 60 (wr.drewN nq) w.heap.size (Value.slice oa out.length oc) out) := Lib.hid HOWN.out
              replace HBW : Hid (Below w.heap.size w (wr.drewN nq)) := Lib.hid (below_drewN HBW.out nq)
              generalize wr.drewN nq = W at *
              go_upto_region 8 with fail
              have hsr : Rows EW w (.slice (if sc = 1 then some ⟨b', off', none⟩ else some ⟨b', off' + 3, none⟩) s'.length (sc - 1)) s' := HS.out.tailIf
              generalize (if sc = 1 then some (⟨b', off', none⟩ : Addr) else some ⟨b', off' + 3, none⟩) = sa' at hsr ⊢
              have HSR := Lib.hid hsr
              clear hsr
              have ha0 : (W.alloc (.cells #[.string yk, .string yt, .bool false] 70)).cell? ⟨b, off, none⟩ = some (.string x.key) := ((Below.refl W.heap.size W).alloc (Nat.le_refl _) _).cell (World.block_lt_of_cell? W _ hc0) |>.trans hc0
              go_quiet (fail)
              go_upto_region 10 with fail
              have hlr : Rows EP w (.slice (if lc = 1 then some ⟨b, off, none⟩ else some ⟨b, off + 2, none⟩) l'.length (lc - 1)) l' := HL.out.tailIf
              generalize (if lc = 1 then some (⟨b, off, none⟩ : Addr) else some ⟨b, off + 2, none⟩) = la' at hlr ⊢
              have HLR := Lib.hid hlr
              clear hlr
              have HNEW : Hid (Rows EP (((W.alloc (.cells #[.string yk, .string yt, .bool false] 70)).drewN nq).alloc (.cells #[.string yk, .string yt] 60)) (.slice (some ⟨(W.heap.size + 1), 0, none⟩) 1 1) [⟨yk, yt⟩]) := Lib.hid (by have e := rows_new EP ((W.alloc (.cells #[.string yk, .string yt, .bool false] 70)).drewN nq) 60 ⟨yk, yt⟩; rw [show ((W.alloc (.cells #[.string yk, .string yt, .bool false] 70)).drewN nq).heap.size = W.heap.size + 1 from World.size_alloc _ _] at e; exact e)
              go_wp2_with (at_builtin; refine wpList_growR rfl (.tmp 64) (.tmp 70) 48 rfl rowP w.heap.size _ out rfl (((HOWN.out.alloc _).drewN _).alloc _) _ [⟨yk, yt⟩] rfl HNEW.out 100001 ?c2 ⟨by simp [maxLen], by omega⟩ ?c1 ?_; (case c1 => (have := HBW.out.size; simp; omega)); (case c2 => (have := HLEN.out; simp; omega)); intro A4 c4 w4 hown4 hb4; have HOWN4 := Lib.hid hown4; have HB4 := Lib.hid hb4; clear hown4 hb4)
              go_roundw
              case rel => exact ⟨_, _, out ++ [⟨yk, yt⟩], HLR.out, HSR.out, HOWN4.out, HE.out, by have := HLEN.out; simp; omega, (((below_drewN (HBW.out.alloc HBW.out.size _) _).alloc (by have := HBW.out.size; simp; omega) _)).trans HB4.out⟩
              case measure => simp [lenV]; omega
            · simp only [emit, if_true, List.append_nil] at HE
              go_wp2
              go_quiet (fail)
              replace hc0 : (wr.drewN nq).cell? ⟨b, off, none⟩ = some (.string x.key) := hc0
              replace hc1 : (wr.drewN nq).cell? ⟨b, off + 1, none⟩ = some (.string x.text) := hc1
              replace hd0 : (wr.drewN nq).cell? ⟨b', off', none⟩ = some (.string yk) := hd0
              replace hd1 : (wr.drewN nq).cell? ⟨b', off' + 1, none⟩ = some (.string yt) := hd1
              replace hd2 : (wr.drewN nq).cell? ⟨b', off' + 2, none⟩ = some (.bool true) := hd2
              replace HOWN : Hid (OwnR EP 60 (wr.drewN nq) w.heap.size (Value.slice oa out.length oc) out) := Lib.hid HOWN.out
              replace HBW : Hid (Below w.heap.size w (wr.drewN nq)) := Lib.hid (below_drewN HBW.out nq)
              generalize wr.drewN nq = W at *
              go_upto_region 8 with fail
              have hsr : Rows EW w (.slice (if sc = 1 then some ⟨b', off', none⟩ else some ⟨b', off' + 3, none⟩) s'.length (sc - 1)) s' := HS.out.tailIf
              generalize (if sc = 1 then some (⟨b', off', none⟩ : Addr) else some ⟨b', off' + 3, none⟩) = sa' at hsr ⊢
              have HSR := Lib.hid hsr
              clear hsr
              have ha0 : (W.alloc (.cells #[.string yk, .string yt, .bool true] 70)).cell? ⟨b, off, none⟩ = some (.string x.key) := ((Below.refl W.heap.size W).alloc (Nat.le_refl _) _).cell (World.block_lt_of_cell? W _ hc0) |>.trans hc0
              go_quiet (fail)
              go_upto_region 10 with fail
              have hlr : Rows EP w (.slice (if lc = 1 then some ⟨b, off, none⟩ else some ⟨b, off + 2, none⟩) l'.length (lc - 1)) l' := HL.out.tailIf
              generalize (if lc = 1 then some (⟨b, off, none⟩ : Addr) else some ⟨b, off + 2, none⟩) = la' at hlr ⊢
              have HLR := Lib.hid hlr
              clear hlr
              go_wp2
              go_roundw
              case rel => exact ⟨_, _, out, HLR.out, HSR.out, (HOWN.out.alloc _).drewN _, HE.out, by have := HLEN.out; simp; omega, below_drewN (HBW.out.alloc HBW.out.size _) _⟩
              case measure => simp [lenV]; omega
          · have t2 : (x.key.toList == y.key.toList) = false := by rw [beq_eq_false_iff_ne]; exact hke
            have HE : Hid (out ++ emit y ++ overM (x :: l') s' = overM l s) := Lib.hid (by have := HEQ.out; rw [overM, if_neg hlt, if_neg hke, ← List.append_assoc] at this; exact this)
            simp only [List.length_cons] at HL HS HLEN hlc hsc hll hsl ⊢
            clear hlt hke HEQ
            obtain ⟨yk, yt, yg⟩ := y
            simp only at hd0 hd1 hd2
            cases yg
            · simp only [emit, Bool.false_eq_true, if_false] at HE
              go_wp2
              go_quiet (fail)
              replace hc0 : (wr.drewN nq).cell? ⟨b, off, none⟩ = some (.string x.key) := hc0
              replace hc1 : (wr.drewN nq).cell? ⟨b, off + 1, none⟩ = some (.string x.text) := hc1
              replace hd0 : (wr.drewN nq).cell? ⟨b', off', none⟩ = some (.string yk) := hd0
              replace hd1 : (wr.drewN nq).cell? ⟨b', off' + 1, none⟩ = some (.string yt) := hd1
              replace hd2 : (wr.drewN nq).cell? ⟨b', off' + 2, none⟩ = some (.bool false) := hd2
              replace HOWN : Hid (OwnR EP 60 (wr.drewN nq) w.heap.size (Value.slice oa out.length oc) out) := Lib.hid HOWN.out
              replace HBW : Hid (Below w.heap.size w (wr.drewN nq)) := Lib.hid (below_drewN HBW.out nq)
              generalize wr.drewN nq = W at *
              go_upto_region 8 with fail
              have hsr : Rows EW w (.slice (if sc = 1 then some ⟨b', off', none⟩ else some ⟨b', off' + 3, none⟩) s'.length (sc - 1)) s' := HS.out.tailIf
              generalize (if sc = 1 then some (⟨b', off', none⟩ : Addr) else some ⟨b', off' + 3, none⟩) = sa' at hsr ⊢
              have HSR := Lib.hid hsr
              clear hsr
              have ha0 : (W.alloc (.cells #[.string yk, .string yt, .bool false] 70)).cell? ⟨b, off, none⟩ = some (.string x.key) := ((Below.refl W.heap.size W).alloc (Nat.le_refl _) _).cell (World.block_lt_of_cell? W _ hc0) |>.trans hc0
              go_quiet (fail)
              have HNEW : Hid (Rows EP (((W.alloc (.cells #[.string yk, .string yt, .bool false] 70)).drewN nq).alloc (.cells #[.string yk, .string yt] 60)) (.slice (some ⟨(W.heap.size + 1), 0, none⟩) 1 1) [⟨yk, yt⟩]) := Lib.hid (by have e := rows_new EP ((W.alloc (.cells #[.string yk, .string yt, .bool false] 70)).drewN nq) 60 ⟨yk, yt⟩; rw [show ((W.alloc (.cells #[.string yk, .string yt, .bool false] 70)).drewN nq).heap.size = W.heap.size + 1 from World.size_alloc _ _] at e; exact e)
              go_wp2_with (at_builtin; refine wpList_growR rfl (.tmp 64) (.tmp 70) 48 rfl rowP w.heap.size _ out rfl (((HOWN.out.alloc _).drewN _).alloc _) _ [⟨yk, yt⟩] rfl HNEW.out 100001 ?c2 ⟨by simp [maxLen], by omega⟩ ?c1 ?_; (case c1 => (have := HBW.out.size; simp; omega)); (case c2 => (have := HLEN.out; simp; omega)); intro A4 c4 w4 hown4 hb4; have HOWN4 := Lib.hid hown4; have HB4 := Lib.hid hb4; clear hown4 hb4)
              go_roundw
              case rel => exact ⟨_, _, out ++ [⟨yk, yt⟩], HL.out, HSR.out, HOWN4.out, HE.out, by have := HLEN.out; simp; omega, (((below_drewN (HBW.out.alloc HBW.out.size _) _).alloc (by have := HBW.out.size; simp; omega) _)).trans HB4.out⟩
              case measure => simp [lenV]
            · simp only [emit, if_true, List.append_nil] at HE
              go_wp2
              go_quiet (fail)
              replace hc0 : (wr.drewN nq).cell? ⟨b, off, none⟩ = some (.string x.key) := hc0
              replace hc1 : (wr.drewN nq).cell? ⟨b, off + 1, none⟩ = some (.string x.text) := hc1
              replace hd0 : (wr.drewN nq).cell? ⟨b', off', none⟩ = some (.string yk) := hd0
              replace hd1 : (wr.drewN nq).cell? ⟨b', off' + 1, none⟩ = some (.string yt) := hd1
              replace hd2 : (wr.drewN nq).cell? ⟨b', off' + 2, none⟩ = some (.bool true) := hd2
              replace HOWN : Hid (OwnR EP 60 (wr.drewN nq) w.heap.size (Value.slice oa out.length oc) out) := Lib.hid HOWN.out
              replace HBW : Hid (Below w.heap.size w (wr.drewN nq)) := Lib.hid (below_drewN HBW.out nq)
              generalize wr.drewN nq = W at *
              go_upto_region 8 with fail
              have hsr : Rows EW w (.slice (if sc = 1 then some ⟨b', off', none⟩ else some ⟨b', off' + 3, none⟩) s'.length (sc - 1)) s' := HS.out.tailIf
              generalize (if sc = 1 then some (⟨b', off', none⟩ : Addr) else some ⟨b', off' + 3, none⟩) = sa' at hsr ⊢
              have HSR := Lib.hid hsr
              clear hsr
              have ha0 : (W.alloc (.cells #[.string yk, .string yt, .bool true] 70)).cell? ⟨b, off, none⟩ = some (.string x.key) := ((Below.refl W.heap.size W).alloc (Nat.le_refl _) _).cell (World.block_lt_of_cell? W _ hc0) |>.trans hc0
              go_quiet (fail)
              go_wp2
              go_roundw
              case rel => exact ⟨_, _, out, HL.out, HSR.out, (HOWN.out.alloc _).drewN _, HE.out, by have := HLEN.out; simp; omega, below_drewN (HBW.out.alloc HBW.out.size _) _⟩
              case measure => simp [lenV]
end Go.Proofs.Ytdeecdebhigafaa
