/- The walks of crc.Sum and of the reference's sum, bit by bit. No condition. -/
import Derived.Test.YtigcgdhihaibbaaDoorC1
namespace Go.Proofs.YtigcgdhihaibbaaDoor
open Go.RowKit CrcP
theorem ret_int {k : IntKind} {a b : Int} (h : a = b) : Ending.returned (.int k a) = .returned (.int k b) := by rw [h]
theorem sum_any (a : Option Addr) (n c : Nat) (xs : List Int) (w : World) (hr : Rd w a n xs) (ht : Tab w) : Calls Tryd.prog 16 #[.slice a n c] w fun e w' => e = .returned (.int .u32 ((moreB 0#32 xs).toNat : Int)) ∧ w = w' := by
  have hr2 := Lib.hid hr
  have ht2 := Lib.hid ht
  clear hr ht
  go_enter Tryd.func16, Tryd.ntmps16
  go_wp2_with fail
  refine (more_any 0#32 a n c xs w hr2.out ht2.out).mono ?_; rintro e w' ⟨rfl, rfl⟩
  go_wp2
  go_ret
  exact ⟨rfl, rfl⟩
/-- the reference's number behind j bits -/
def nJ (y cb : BitVec 32) (j : Nat) : BitVec 32 := stN j y ^^^ (cb >>> j)
theorem stN_succ (j : Nat) (y : BitVec 32) : stN (j + 1) y = st (stN j y) := by rw [stN_add]; rfl
theorem half_bv (x : BitVec 32) : (x.toNat : Int) / (2 : Int) = ((x >>> 1).toNat : Int) := by
  rw [BitVec.toNat_ushiftRight, Nat.shiftRight_eq_div_pow]; omega
theorem lsb_sum (n c : BitVec 32) : (((n.toNat : Int) + (c.toNat : Int)) % (2 : Int) = 1) ↔ (n ^^^ c).getLsbD 0 = true := by
  have hn : n.getLsbD 0 = decide (n.toNat % 2 = 1) := by simp [BitVec.getLsbD, Nat.testBit_eq_decide_div_mod_eq]
  have hc : c.getLsbD 0 = decide (c.toNat % 2 = 1) := by simp [BitVec.getLsbD, Nat.testBit_eq_decide_div_mod_eq]
  rw [BitVec.getLsbD_xor, hn, hc]
  by_cases h1 : n.toNat % 2 = 1 <;> by_cases h2 : c.toNat % 2 = 1 <;> simp [h1, h2] <;> omega
theorem nJ_yes (y cb : BitVec 32) (j : Nat) (h : (stN j y).getLsbD 0 = true) : (nJ y cb j >>> 1) ^^^ 0xedb88320#32 = nJ y cb (j + 1) := by
  unfold nJ
  rw [stN_succ, st, if_pos h, BitVec.ushiftRight_xor_distrib, ← BitVec.shiftRight_add]
  ac_rfl
theorem nJ_no (y cb : BitVec 32) (j : Nat) (h : (stN j y).getLsbD 0 = false) : nJ y cb j >>> 1 = nJ y cb (j + 1) := by
  unfold nJ
  rw [stN_succ, st_even h, BitVec.ushiftRight_xor_distrib, ← BitVec.shiftRight_add]
theorem nJ_x (y cb : BitVec 32) (j : Nat) : nJ y cb j ^^^ (cb >>> j) = stN j y := by
  unfold nJ
  rw [BitVec.xor_assoc, BitVec.xor_self, BitVec.xor_zero]
theorem nJ_0 (x cb : BitVec 32) : nJ (x ^^^ cb) cb 0 = x := by
  unfold nJ stN
  rw [BitVec.ushiftRight_zero, BitVec.xor_assoc, BitVec.xor_self, BitVec.xor_zero]
theorem nJ_8 (y : BitVec 32) (cb : BitVec 32) (h : cb.toNat ≤ 255) : nJ y cb 8 = stN 8 y := by
  unfold nJ
  rw [show cb >>> 8 = 0#32 by apply BitVec.eq_of_toNat_eq; rw [BitVec.toNat_ushiftRight, Nat.shiftRight_eq_div_pow]; simp; omega, BitVec.xor_zero]
def ini : BitVec 32 := ~~~ 0#32
set_option maxHeartbeats 1000000 in
theorem rsum_any (a : Option Addr) (n c : Nat) (xs : List Int) (w : World) (hr : Rd w a n xs) : Calls Tryd.prog 22 #[.slice a n c] w fun e w' => e = .returned (.int .u32 ((moreB 0#32 xs).toNat : Int)) ∧ w = w' := by
  obtain ⟨hl, hn, hx, hcell⟩ := hr
  have hl2 := Lib.hid hl
  have hcell2 := Lib.hid hcell
  have hx2 := Lib.hid hx
  clear hl hcell hx
  go_enter Tryd.func22, Tryd.ntmps22
  go_wp2
  go_loop [3, 4, 5, 6, 7] (fun h i _ _ _ => ∃ k : Nat, k ≤ n ∧ i = .int .i64 k ∧ h = .int .u32 ((run ini ((xs.take k).map bv)).toNat : Int)) (fun _ i _ _ _ => n - (intOf i).toNat)
  case atStart => exact ⟨0, by omega, rfl, rfl⟩
  case round =>
    obtain ⟨k, hk, rfl, rfl⟩ := hrel
    by_cases hlt : k < n
    · obtain ⟨b, o, rfl, hcs⟩ := hcell2.out (by omega)
      have hcell := hcs k hlt
      have hmem : xs.getD k 0 ∈ xs := by
        have : k < xs.length := by rw [hl2.out]; exact hlt
        simp [this]
      have hb := hx2.out _ hmem
      have hst : (xs.take (k + 1)).map bv = (xs.take k).map bv ++ [bv (xs.getD k 0)] := by
        have : k < xs.length := by rw [hl2.out]; exact hlt
        rw [List.take_succ_eq_append_getElem this, List.map_append]
        simp [this]
      have hrun := run_snoc ini ((xs.take k).map bv) (bv (xs.getD k 0))
      rw [← hst] at hrun
      have hbv := (bv_toNat _ hb).symm
      have hcb8 : (bv (xs.getD k 0)).toNat ≤ 255 := by omega
      generalize hx : run ini ((xs.take k).map bv) = x at *
      generalize hc : bv (xs.getD k 0) = cb at *
      rw [hbv] at hcell
      have hrun2 := Lib.hid hrun
      clear hcs hmem hb hst hrun hbv hx hc
      go_wp2
      go_loop [3, 5, 6, 7] (fun h d j _ => ∃ m : Nat, m ≤ 8 ∧ j = .int .i64 m ∧ h = .int .u32 ((nJ (x ^^^ cb) cb m).toNat : Int) ∧ d = .int .u32 ((cb >>> m).toNat : Int)) (fun _ _ j _ => 8 - (intOf j).toNat)
      case atStart => exact ⟨0, by omega, rfl, by rw [nJ_0], by rw [BitVec.ushiftRight_zero]⟩
      case round =>
        obtain ⟨m, hm, rfl, rfl, rfl⟩ := hrel
        by_cases hm2 : m < 8
        · have hyes := nJ_yes (x ^^^ cb) cb m
          have hno := nJ_no (x ^^^ cb) cb m
          have hl := lsb_sum (nJ (x ^^^ cb) cb m) (cb >>> m)
          rw [nJ_x] at hl
          have hh := half_bv (nJ (x ^^^ cb) cb m)
          have hh2 := half_bv (cb >>> m)
          rw [← BitVec.shiftRight_add] at hh2
          generalize hN : nJ (x ^^^ cb) cb m = y at *
          generalize hC : cb >>> m = z at *
          have hyl := y.isLt
          have hzl := z.isLt
          have hp := bits_xor_bv (y >>> 1) 0xedb88320#32
          have hyes2 := Lib.hid hyes
          have hno2 := Lib.hid hno
          have hl3 := Lib.hid hl
          have hh3 := Lib.hid hh
          have hh4 := Lib.hid hh2
          have hp2 := Lib.hid hp
          clear hyes hno hl hh hh2 hp hN hC
          go_wp2
          · have hbit := hl3.out.1 (beq_iff_eq.1 (by assumption))
            refine ⟨⟨m + 1, by omega, by go_num, ?_, ?_⟩, by simp [intOf]; omega⟩
            · rw [hh3.out, show (3988292384 : Int) = ((0xedb88320#32).toNat : Int) from rfl, hp2.out, hyes2.out hbit]
            · rw [hh4.out]
          · have hbit := fun h => (beq_eq_false_iff_ne.1 (show (((y.toNat : Int) + (z.toNat : Int)) % (2 : Int) == 1) = false from by assumption)) (hl3.out.2 h)
            refine ⟨⟨m + 1, by omega, by go_num, ?_, ?_⟩, by simp [intOf]; omega⟩
            · rw [hh3.out, hno2.out (by simpa using hbit)]
            · rw [hh4.out]
        · have hm3 : m = 8 := by omega
          subst hm3
          rw [nJ_8 _ _ hcb8]
          go_wp2
          exact ⟨⟨k + 1, by omega, by go_num, by rw [hrun2.out]; rfl⟩, by simp [intOf]; omega⟩
    · have hk2 : k = n := by omega
      subst hk2
      have hall : (xs.take k).map bv = xs.map bv := by rw [List.take_of_length_le (by rw [hl2.out]; omega)]
      have hlt := (run ini (xs.map bv)).isLt
      rw [hall]
      clear hall
      go_wp2
      go_ret
      exact ⟨ret_int (by rw [show moreB 0#32 xs = ~~~ (run ini (xs.map bv)) from rfl, BitVec.toNat_not]; omega), rfl⟩
end Go.Proofs.YtigcgdhihaibbaaDoor
