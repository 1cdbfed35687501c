/- The walk of crc.More: half bytes by the table. No condition. -/
import Derived.Test.YtigcgdhihaibbaaDoorProg
import Derived.Test.YtigcgdhihaibbaaDoorKit
import Derived.Test.YtigcgdhihaibbaaDoorPure
namespace Go.Proofs.YtigcgdhihaibbaaDoor
open Go.RowKit CrcP
/-- a slice of bytes, as the walks read it -/
def Rd (w : World) (a : Option Addr) (n : Nat) (xs : List Int) : Prop :=
  xs.length = n ∧ n ≤ 9223372036854775807 ∧ (∀ x ∈ xs, 0 ≤ x ∧ x ≤ 255) ∧ (0 < n → ∃ b o, a = some ⟨b, o, none⟩ ∧ ∀ j, j < n → w.cell? ⟨b, o + j, none⟩ = some (.int .u8 (xs.getD j 0)))
/-- the table of half bytes lies in its variable -/
def Tab (w : World) : Prop := ∀ k, k < 16 → w.cell? ⟨0, k, none⟩ = some (.int .u32 (tabI k))
set_option maxHeartbeats 1000000 in
theorem more_any (s : BitVec 32) (a : Option Addr) (n c : Nat) (xs : List Int) (w : World) (hr : Rd w a n xs) (ht : Tab w) : Calls Tryd.prog 31 #[.int .u32 (s.toNat : Int), .slice a n c] w fun e w' => e = .returned (.int .u32 ((moreB s xs).toNat : Int)) ∧ w = w' := by
  obtain ⟨hl, hn, hx, hcell⟩ := hr
  have hl2 := Lib.hid hl
  have hcell2 := Lib.hid hcell
  have hx2 := Lib.hid hx
  have ht2 := Lib.hid ht
  have hs2 := Lib.hid (not_bv s)
  clear hl hcell hx ht
  go_enter Tryd.func31, Tryd.ntmps31
  go_wp2
  go_loop [5, 7, 12, 20] (fun h _ i _ => ∃ k : Nat, k ≤ n ∧ i = .int .i64 k ∧ h = .int .u32 ((run (~~~ s) ((xs.take k).map bv)).toNat : Int)) (fun _ _ i _ => n - (intOf i).toNat)
  case atStart => exact ⟨0, by omega, rfl, by rw [show IntKind.u32.max = 4294967295 from rfl, hs2.out]; rfl⟩
  case round =>
    obtain ⟨k, hk, rfl, rfl⟩ := hrel
    by_cases hlt : k < n
    · obtain ⟨b, o, rfl, hcs⟩ := hcell2.out (by omega)
      have hcell := hcs k hlt
      have hmem : xs.getD k 0 ∈ xs := by
        have : k < xs.length := by rw [hl2.out]; exact hlt
        simp [this]
      have hb := hx2.out _ hmem
      have hst : (xs.take (k + 1)).map bv = (xs.take k).map bv ++ [bv (xs.getD k 0)] := by
        have : k < xs.length := by rw [hl2.out]; exact hlt
        rw [List.take_succ_eq_append_getElem this, List.map_append]
        simp [this]
      have hrun := run_snoc (~~~ s) ((xs.take k).map bv) (bv (xs.getD k 0))
      rw [← hst] at hrun
      have hbv := (bv_toNat _ hb).symm
      generalize hx : run (~~~ s) ((xs.take k).map bv) = x at *
      generalize hc : bv (xs.getD k 0) = cb at *
      rw [hbv] at hcell
      have hxor := Lib.hid (bits_xor_bv x cb)
      have hrun2 := Lib.hid hrun
      have hcb := cb.isLt
      clear hcs hmem hb hst hrun hbv hx hc
      go_wp2
      go_loop [5, 20] (fun h j => ∃ m : Nat, m ≤ 2 ∧ j = .int .i64 m ∧ h = .int .u32 ((stN (4 * m) (x ^^^ cb)).toNat : Int)) (fun _ j => 2 - (intOf j).toNat)
      case atStart => exact ⟨0, by omega, rfl, by rw [hxor.out]; rfl⟩
      case round =>
        obtain ⟨m, hm, rfl, rfl⟩ := hrel
        by_cases hm2 : m < 2
        · have hy : stN (4 * (m + 1)) (x ^^^ cb) = stN 4 (stN (4 * m) (x ^^^ cb)) := by rw [show 4 * (m + 1) = 4 * m + 4 by omega, stN_add]
          have hhalf := half (stN (4 * m) (x ^^^ cb))
          have htab := ht2.out ((stN (4 * m) (x ^^^ cb)).toNat % 16) (by omega)
          generalize hyy : stN (4 * m) (x ^^^ cb) = y at *
          have hy2 := Lib.hid hy
          have hhalf2 := Lib.hid hhalf
          have hlt := y.isLt
          have g16 : y.toNat % 16 < 16 := by omega
          clear hy hhalf hyy
          go_wp2
          exact ⟨⟨m + 1, by omega, by go_num, by rw [hhalf2.out, hy2.out]⟩, by simp [intOf]; omega⟩
        · have hm3 : m = 2 := by omega
          subst hm3
          go_wp2
          exact ⟨⟨k + 1, by omega, by go_num, by rw [hrun2.out]; rfl⟩, by simp [intOf]; omega⟩
    · have hk2 : k = n := by omega
      subst hk2
      have hall : (xs.take k).map bv = xs.map bv := by rw [List.take_of_length_le (by rw [hl2.out]; omega)]
      have hnot := not_bv (run (~~~ s) ((xs.take k).map bv))
      rw [hall] at hnot
      rw [hall]
      have hnot2 := Lib.hid hnot
      clear hnot hall
      go_wp2
      go_ret
      exact ⟨by rw [show IntKind.u32.max = 4294967295 from rfl, hnot2.out]; rfl, rfl⟩
end Go.Proofs.YtigcgdhihaibbaaDoor
