/- What is known of the checksum (wakes), and the walk of the law CrcSums. No condition. -/
import Derived.Test.YtfdbibddhneklaaDoorC2
import Derived.Lib.SlBytesConst
namespace Go.Proofs.YtfdbibddhneklaaDoor
open Go.RowKit CrcP
theorem Tab.keep {w w1 : World} (h : Tab w) (hb : Below w.heap.size w w1) : Tab w1 := fun k hk => by
  have hc := h k hk
  exact (hb.cell (World.block_lt_of_cell? w _ hc)).trans hc
theorem Rd.keep {w w1 : World} {a : Option Addr} {n : Nat} {xs : List Int} (h : Rd w a n xs) (hb : Below w.heap.size w w1) : Rd w1 a n xs :=
  ⟨h.1, h.2.1, h.2.2.1, fun hn => by
    obtain ⟨b, o, e, hc⟩ := h.2.2.2 hn
    exact ⟨b, o, e, fun j hj => (hb.cell (World.block_lt_of_cell? w _ (hc j hj))).trans (hc j hj)⟩⟩
theorem rd_new (w : World) (l : List Int) (T : TypeId) (fr : Nat × Nat) (hl : l.length ≤ 9223372036854775807) (hx : ∀ x ∈ l, 0 ≤ x ∧ x ≤ 255) (c : Array Value) (hc : c = (l.map (Value.int .u8)).toArray) : Rd (w.alloc (.cells c T fr)) (some ⟨w.heap.size, 0, none⟩) l.length l := by
  subst hc
  refine ⟨rfl, hl, hx, fun _ => ⟨_, _, rfl, fun j hj => ?_⟩⟩
  rw [World.cell?_alloc_mark]
  simp [hj]
theorem rd_nil (w : World) : Rd w none 0 [] := ⟨rfl, by omega, by simp, fun h => absurd h (by omega)⟩
set_option maxRecDepth 100000 in
theorem wakes_true (w : World) (ht : Tab w) : Calls Tryd.prog 7 #[] w fun e w' => e = .returned (.bool true) ∧ Below w.heap.size w w' := by
  have ht2 := Lib.hid ht
  clear ht
  have kc := fun (w : World) (C : Array Value) (n c : Nat) => Lib.run_convert_bytes_const (P := Tryd.prog) w 22 5 C n c Tryd.underlying22 Tryd.underlying5
  have m1 : ((moreB 0#32 [49, 50, 51, 52, 53, 54, 55, 56, 57]).toNat : Int) = 3421780262 := by decide +kernel
  have m2 : ((moreB 0#32 []).toNat : Int) = 0 := by decide +kernel
  have m3 : ((moreB (moreB 0#32 [49, 50, 51, 52]) [53, 54, 55, 56, 57]).toNat : Int) = 3421780262 := by decide +kernel
  have n1 := Lib.hid m1
  have n2 := Lib.hid m2
  have n3 := Lib.hid m3
  clear m1 m2 m3
  have H := Below.refl w.heap.size w
  go_enter Tryd.func7, Tryd.ntmps7
  go_wp2_with fail
  have b1 : Below w.heap.size w (w.alloc (.cells #[.int .u8 49, .int .u8 50, .int .u8 51, .int .u8 52, .int .u8 53, .int .u8 54, .int .u8 55, .int .u8 56, .int .u8 57] 5 (9, 10))) := H.alloc (Nat.le_refl _) _
  refine (sum_any _ _ _ [49, 50, 51, 52, 53, 54, 55, 56, 57] _ (rd_new w _ 5 (9, 10) (by decide) (by decide) _ rfl) (ht2.out.keep b1)).mono ?_; rintro e w1 ⟨rfl, hw⟩
  rw [n1.out]
  have b2 : Below w.heap.size w w1 := by rw [← hw]; exact b1
  have t1 := ht2.out.keep b2
  have T1 := Lib.hid t1
  clear t1 hw b1
  go_wp2_with fail
  refine (sum_any none 0 0 [] _ (rd_nil _) T1.out).mono ?_; rintro e w' ⟨rfl, rfl⟩
  rw [n2.out]
  go_wp2_with fail
  have b3 : Below w.heap.size w (w1.alloc (.cells #[.int .u8 49, .int .u8 50, .int .u8 51, .int .u8 52] 5 (4, 5))) := b2.alloc b2.size _
  refine (sum_any _ _ _ [49, 50, 51, 52] _ (rd_new w1 _ 5 (4, 5) (by decide) (by decide) _ rfl) (ht2.out.keep b3)).mono ?_; rintro e w2 ⟨rfl, hw⟩
  have b4 : Below w.heap.size w w2 := by rw [← hw]; exact b3
  clear hw b3
  go_wp2_with fail
  have b5 : Below w.heap.size w (w2.alloc (.cells #[.int .u8 53, .int .u8 54, .int .u8 55, .int .u8 56, .int .u8 57] 5 (5, 6))) := b4.alloc b4.size _
  refine (more_any (moreB 0#32 [49, 50, 51, 52]) _ _ _ [53, 54, 55, 56, 57] _ (rd_new w2 _ 5 (5, 6) (by decide) (by decide) _ rfl) (ht2.out.keep b5)).mono ?_; rintro e w3 ⟨rfl, hw⟩
  have b6 : Below w.heap.size w w3 := by rw [← hw]; exact b5
  rw [n3.out]
  clear hw b5
  go_wp2_with fail
  go_ret
  exact ⟨rfl, b6⟩
set_option maxRecDepth 100000 in
theorem crcSums_true (a : Option Addr) (n c : Nat) (xs : List Int) (w : World) (hr : Rd w a n xs) (ht : Tab w) : Calls Tryd.prog 3 #[.slice a n c] w fun e w' => e = .returned (.bool true) ∧ Below w.heap.size w w' := by
  have hn := hr.2.1
  have hr2 := Lib.hid hr
  have ht2 := Lib.hid ht
  clear hr ht
  by_cases h : 3000 < n
  · go_enter Tryd.func3, Tryd.ntmps3
    go_wp2_with fail
    refine (wakes_true _ ht2.out).mono ?_; rintro e w' ⟨rfl, hb⟩
    go_wp2_with fail
    go_ret
    exact ⟨rfl, hb⟩
  · go_enter Tryd.func3, Tryd.ntmps3
    go_wp2_with fail
    refine (sum_any _ _ _ xs _ hr2.out ht2.out).mono ?_; rintro e w' ⟨rfl, rfl⟩
    go_wp2_with fail
    refine (rsum_any _ _ _ xs _ hr2.out).mono ?_; rintro e w' ⟨rfl, rfl⟩
    go_wp2_with fail
    refine (wakes_true _ ht2.out).mono ?_; rintro e w' ⟨rfl, hb⟩
    go_wp2_with fail
    go_ret
    exact ⟨rfl, hb⟩
end Go.Proofs.YtfdbibddhneklaaDoor
