import Derived.Test.YtfdbibddhneklabArE
import Derived.Test.YtfdbibddhneklabWWords
namespace Go.Proofs.Ytfdbibddhneklab.Arena
open Go.RowKit Go.Proofs.YtfdbibddhneklabW.PrintWords
set_option linter.unusedVariables false
set_option linter.unusedSimpArgs false
set_option maxRecDepth 100000
set_option maxHeartbeats 1000000
theorem info24 : (Try.prog.info? 24).map (fun i => (i.zero, i.size, i.bytes)) = some (some (.int .u16 0), 1, 2) := by kernel_rfl
def idsL (L : List Sl) (n : Nat) : List Int := ((List.range n).filter (sU L)).map (idOf L)
theorem idsL_yes (L : List Sl) (n : Nat) (h : sU L n = true) : idsL L (n + 1) = idsL L n ++ [idOf L n] := by unfold idsL; simp [List.range_succ, h]
theorem idsL_no (L : List Sl) (n : Nat) (h : sU L n = false) : idsL L (n + 1) = idsL L n := by unfold idsL; simp [List.range_succ, h]
theorem idsL_len (L : List Sl) (n : Nat) : (idsL L n).length ≤ n := by
  unfold idsL
  rw [List.length_map]
  exact Nat.le_trans (List.length_filter_le _ _) (by simp)
theorem Lies.grown {W W' : World} {g : Nat} {L : List Sl} (h : Lies W g L) {row : Option Nat} (hg : W.grownBy W' row) (hne : some g ≠ row) : Lies W' g L := (hg.block g h.lt hne).trans h

theorem ids_any (L : List Sl) (hL : L.length = 128) (w : World) : Calls Try.prog 12 #[.agg (acs L)] w fun e w' => ∃ v, e = .returned v ∧ Kd.R (Kd.int .u16) 24 w' w.heap.size (fun _ => True) v (idsL L 128) ∧ Below w.heap.size w w' := by
  have HI := Lib.hid (info29 L hL)
  have HI7 := Lib.hid (info27 L hL)
  have HL := Lib.hid hL
  have P0 := Lib.hid (lies_new w L w.heap.size rfl)
  have HB := Lib.hid ((Below.refl w.heap.size w).alloc (Nat.le_refl _) (.cells (acs L) 29))
  clear hL
  go_enter Try.func12, Try.ntmps12
  go_wp2_with (refine wpList_load_row rfl 27 (.tmp 6) rfl _ rfl _ _ _ _ P0.out Try.underlying27 rfl HI7.out ?_)
  go_loopw [3, 8] (fun v3 v8 wr => ∃ k : Nat, v8 = .int .i64 k ∧ k ≤ 128 ∧ Kd.R (Kd.int .u16) 24 wr w.heap.size (fun _ => True) v3 (idsL L k) ∧ Lies wr w.heap.size L ∧ Below w.heap.size w wr) (fun _ v8 _ => 128 - (intOf v8).toNat)
  case atStart => exact ⟨0, rfl, by omega, Kd.R_nil _ _ _ _ _, P0.out, HB.out⟩
  case round =>
    obtain ⟨k, rfl, hk, hR, Q0, QB⟩ := hrel
    by_cases h : k < 128
    · have h128 : (k : Int) < 128 := by omega
      have hix := index27 L k HL.out h wr
      have V0 := Lib.hid (lies_past wr (.cells #[.int .i64 (sX L k), .int .u16 (sG L k), .bool (sU L k)] 26) L w.heap.size Q0)
      have VB := Lib.hid (QB.alloc QB.size (.cells #[.int .i64 (sX L k), .int .u16 (sG L k), .bool (sU L k)] 26))
      have VR := Lib.hid (Kd.R_alloc hR (.cells #[.int .i64 (sX L k), .int .u16 (sG L k), .bool (sU L k)] 26))
      have hlen := idsL_len L k
      clear hR Q0 QB
      cases hu : sU L k
      · have hno := Lib.hid (idsL_no L k hu)
        rw [hu] at hix V0 VB VR
        go_wp2_with fail
        exact ⟨⟨k + 1, by go_num, by omega, by rw [hno.out]; exact VR.out, V0.out, VB.out⟩, by simp [intOf]; omega⟩
      · have hyes := Lib.hid (idsL_yes L k hu)
        rw [hu] at hix V0 VB VR
        have HC := Lib.hid (fun W => id_any L k HL.out h W)
        go_wp2_with (refine wpList_load_row rfl 29 (.tmp 1) rfl _ rfl _ _ _ _ V0.out Try.underlying29 rfl HI.out ?_)
        refine (HC.out _).mono ?_; rintro e w3 ⟨rfl, hb⟩
        have V0 := Lib.hid (V0.out.next hb)
        have VB := Lib.hid (bnext VB.out (Nat.le_refl _) hb)
        have VR := Lib.hid (Kd.R_below VR.out hb)
        clear hb hix
        go_wp2_with (at_builtin; refine Kd.R_append (Kd.int .u16) (w0 := w) w.heap.size rfl (.tmp 14) (.tmp 18) 37 24 (.int .u16 0) 2 rfl Try.underlying37 info24 rfl (by decide) (by omega) _ (idsL L k) (idOf L k) [.int .u16 (idOf L k)] (fun _ => True) (fun _ => False) rfl rfl rfl (fun _ hk => hk.elim) (fun _ _ => trivial) VR.out VB.out VB.out.size (by omega) ?_; intro v5 w5 R5 b5 g5 _)
        have V5 := V0.out.grown g5 (Kd.R_ne VR.out V0.out (by decide))
        exact ⟨⟨k + 1, by go_num, by omega, by rw [hyes.out]; exact R5, V5, b5⟩, by simp [intOf]; omega⟩
    · obtain rfl : k = 128 := by omega
      have VB := Lib.hid QB
      have VR := Lib.hid hR
      clear QB hR Q0
      go_wp2_with fail
      go_ret
      exact ⟨_, rfl, VR.out, VB.out⟩
end Go.Proofs.Ytfdbibddhneklab.Arena
