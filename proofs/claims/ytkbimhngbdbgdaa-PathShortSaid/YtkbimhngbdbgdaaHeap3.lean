/- Path: the heap of open tiles: down. No condition. -/
import Derived.Test.YtkbimhngbdbgdaaHeap2
namespace Go.Proofs.Ytkbimhngbdbgdaa.PPathFinds
open Go.RowKit Go.Proofs.YtkbimhngbdbgdaaW.PrintWords Go.Proofs.YtkbimhngbdbgdaaW.PrintLast Go.Proofs.YtkbimhngbdbgdaaW.PrintMore
attribute [local go_sem] max2_int min2_int max_two min_two max_three min_three max_four min_four   -- for this text's walks alone
set_option linter.unusedVariables false
set_option linter.unusedSimpArgs false
set_option maxHeartbeats 4000000
set_option maxRecDepth 20000
theorem heap_down_calls (w W : World) (g : Nat) (q : SP) (v : Value) (l : List S51) (i0 n : Nat) (hl : l.length ≤ 1000000) (hi : i0 ≤ 1000000) (hnl : n ≤ l.length) (H : Hp w W g q v l) :
    Calls Try.prog 35 #[.iface 69 (.pointer (some ⟨g, 6, none⟩)), .int .i64 i0, .int .i64 n] W fun e W' => (∃ b, e = .returned (.bool b)) ∧ Hp w W' g q v (hp_down (n + 1) l i0 n) ∧ KeepBut W W' g v.ownBlock := by
  obtain ⟨A, c, rfl, hlc, -⟩ := H.form
  obtain ⟨N, hN⟩ : ∃ N, l.length = N := ⟨_, rfl⟩
  obtain ⟨T, hT⟩ : ∃ T, hp_down (n + 1) l i0 n = T := ⟨_, rfl⟩
  rw [hN] at H ⊢ hlc hnl hl
  rw [hT]
  have HH := Lib.hid H
  have HT := Lib.hid hT
  clear H hT
  go_enter Try.func35, Try.ntmps35
  go_wp2
  go_loopg [7] (n + 1) (fun kq v7 w' => ∃ (i : Nat) (m : List S51), v7 = .int .i64 i ∧ (n < kq + i) ∧ m.length = N ∧ i ≤ 1000000 ∧ RowKit.Hid (hp_down kq m i n = T) ∧ RowKit.Hid (Hp w w' g q (.slice A N c) m) ∧ RowKit.Hid (KeepBut W w' g (Value.slice A N c).ownBlock) ∧ kq ≤ n + 1)
  case atStart => exact ⟨i0, l, rfl, by omega, hN, hi, HT, HH, Lib.hid (KeepBut.refl _ _ _), by omega⟩
  case round =>
    clear HH HT
    obtain ⟨i, m, rfl, hik, hml, hil, HE, HP, HK, hkj⟩ := hrel
    have hE := HE.out
    clear HE
    by_cases hbig : n ≤ 2 * i + 1
    · have HE2 := Lib.hid (show m = T by
        cases gk with
        | zero => exact hE
        | succ k1 => unfold hp_down at hE; rw [if_pos hbig] at hE; exact hE)
      clear hE
      have hd1 : decide ((n : Int) ≤ 2 * (i : Int) + 1) = true := decide_eq_true (by omega)
      go_wp2
      go_ret
      exact ⟨⟨_, rfl⟩, by rw [← HE2.out]; exact HP.out, HK.out⟩
    · cases gk with
      | zero => omega
      | succ k1 =>
        have hd1 : decide ((n : Int) ≤ 2 * (i : Int) + 1) = false := decide_eq_false (by omega)
        have hd2 : decide (2 * (i : Int) + 1 < 0) = false := decide_eq_false (by omega)
        unfold hp_down at hE
        rw [if_neg hbig] at hE
        have hc6 := HP.out.cell
        have mL := fun k => m_less k ⟨g, 6, none⟩ wr _ hc6
        unfold hp_kid at hE
        obtain ⟨a1, ha1⟩ : ∃ a : Nat, 2 * i + 1 = a := ⟨_, rfl⟩
        obtain ⟨a2, ha2⟩ : ∃ a : Nat, 2 * i + 2 = a := ⟨_, rfl⟩
        rw [ha1, ha2] at hE
        have e1 : 2 * (i : Int) + 1 = (a1 : Int) := by omega
        have e2 : (a1 : Int) + 1 = (a2 : Int) := by omega
        rw [e1] at hd1 hd2
        by_cases h2 : a2 < n
        · have hd3 : decide ((a2 : Int) < (n : Int)) = true := decide_eq_true (by omega)
          obtain ⟨b1, hb1⟩ : ∃ b, lt3 (m.getD a2 z51) (m.getD a1 z51) = b := ⟨_, rfl⟩
          have L1 := less_calls HP.out a2 a1 (by omega) (by omega)
          rw [hb1] at L1 hE
          replace L1 := Lib.hid L1
          cases b1 with
          | false =>
            rw [if_neg (show ¬ (a2 < n ∧ false = true) by simp)] at hE
            obtain ⟨b2, hb2⟩ : ∃ b, lt3 (m.getD (a1) z51) (m.getD i z51) = b := ⟨_, rfl⟩
            rw [hb2] at hE
            cases b2 with
            | false =>
              rw [if_pos rfl] at hE
              have HE2 := Lib.hid hE
              clear hE
              go_wp2_with (first | (refine L1.out.mono ?_; rintro e W1 ⟨rfl, hb_1⟩; have HP1 := Lib.hid (HP.out.next hb_1); have HK1 := Lib.hid (KeepBut.trans HK.out (KeepBut.of_below hb_1 _ (Value.slice A N c).ownBlock) (.inl rfl)); have hc7 := HP1.out.cell; have mL2 := fun k => m_less k ⟨g, 6, none⟩ W1 _ hc7; have L2 := less_calls HP1.out (a1) i (by omega) (by omega); rw [hb2] at L2; replace L2 := Lib.hid L2; clear L1 hb_1 mL hc6 hc7) | (refine L2.out.mono ?_; rintro e W2 ⟨rfl, hb_2⟩; have HP2 := Lib.hid (HP1.out.next hb_2); have HK2 := Lib.hid (KeepBut.trans HK1.out (KeepBut.of_below hb_2 _ (Value.slice A N c).ownBlock) (.inl rfl)); clear L2 hb_2) | fail)
              go_ret
              exact ⟨⟨_, rfl⟩, by rw [← HE2.out]; exact HP2.out, HK2.out⟩
            | true =>
              rw [if_neg (by simp)] at hE
              have HE2 := Lib.hid hE
              clear hE
              go_wp2_with (first | (refine L1.out.mono ?_; rintro e W1 ⟨rfl, hb_1⟩; have HP1 := Lib.hid (HP.out.next hb_1); have HK1 := Lib.hid (KeepBut.trans HK.out (KeepBut.of_below hb_1 _ (Value.slice A N c).ownBlock) (.inl rfl)); have hc7 := HP1.out.cell; have mL2 := fun k => m_less k ⟨g, 6, none⟩ W1 _ hc7; have L2 := less_calls HP1.out (a1) i (by omega) (by omega); rw [hb2] at L2; replace L2 := Lib.hid L2; clear L1 hb_1 mL hc6 hc7) | (refine L2.out.mono ?_; rintro e W2 ⟨rfl, hb_2⟩; have HP2 := Lib.hid (HP1.out.next hb_2); have HK2 := Lib.hid (KeepBut.trans HK1.out (KeepBut.of_below hb_2 _ (Value.slice A N c).ownBlock) (.inl rfl)); have hc8 := HP2.out.cell; have mS := fun k => m_swap k ⟨g, 6, none⟩ W2 _ hc8; have SC := Lib.hid (swap_calls HP2.out i (a1) (by omega) (by omega)); clear L2 hb_2 hc8) | (refine SC.out.mono ?_; rintro e W3 ⟨rfl, HP3, HK3⟩; replace HP3 := Lib.hid HP3; replace HK3 := Lib.hid (KeepBut.trans HK2.out HK3 (.inl rfl)); clear SC) | fail)
              go_roundg k1
              case measure => omega
              case rel => exact ⟨a1, sw m i (a1), rfl, by omega, by rw [sw_len]; exact hml, by omega, HE2, HP3, HK3, by omega⟩
          | true =>
            rw [if_pos (show (a2 < n ∧ true = true) from ⟨h2, rfl⟩)] at hE
            obtain ⟨b2, hb2⟩ : ∃ b, lt3 (m.getD (a2) z51) (m.getD i z51) = b := ⟨_, rfl⟩
            rw [hb2] at hE
            cases b2 with
            | false =>
              rw [if_pos rfl] at hE
              have HE2 := Lib.hid hE
              clear hE
              go_wp2_with (first | (refine L1.out.mono ?_; rintro e W1 ⟨rfl, hb_1⟩; have HP1 := Lib.hid (HP.out.next hb_1); have HK1 := Lib.hid (KeepBut.trans HK.out (KeepBut.of_below hb_1 _ (Value.slice A N c).ownBlock) (.inl rfl)); have hc7 := HP1.out.cell; have mL2 := fun k => m_less k ⟨g, 6, none⟩ W1 _ hc7; have L2 := less_calls HP1.out (a2) i (by omega) (by omega); rw [hb2] at L2; replace L2 := Lib.hid L2; clear L1 hb_1 mL hc6 hc7) | (refine L2.out.mono ?_; rintro e W2 ⟨rfl, hb_2⟩; have HP2 := Lib.hid (HP1.out.next hb_2); have HK2 := Lib.hid (KeepBut.trans HK1.out (KeepBut.of_below hb_2 _ (Value.slice A N c).ownBlock) (.inl rfl)); clear L2 hb_2) | fail)
              go_ret
              exact ⟨⟨_, rfl⟩, by rw [← HE2.out]; exact HP2.out, HK2.out⟩
            | true =>
              rw [if_neg (by simp)] at hE
              have HE2 := Lib.hid hE
              clear hE
              go_wp2_with (first | (refine L1.out.mono ?_; rintro e W1 ⟨rfl, hb_1⟩; have HP1 := Lib.hid (HP.out.next hb_1); have HK1 := Lib.hid (KeepBut.trans HK.out (KeepBut.of_below hb_1 _ (Value.slice A N c).ownBlock) (.inl rfl)); have hc7 := HP1.out.cell; have mL2 := fun k => m_less k ⟨g, 6, none⟩ W1 _ hc7; have L2 := less_calls HP1.out (a2) i (by omega) (by omega); rw [hb2] at L2; replace L2 := Lib.hid L2; clear L1 hb_1 mL hc6 hc7) | (refine L2.out.mono ?_; rintro e W2 ⟨rfl, hb_2⟩; have HP2 := Lib.hid (HP1.out.next hb_2); have HK2 := Lib.hid (KeepBut.trans HK1.out (KeepBut.of_below hb_2 _ (Value.slice A N c).ownBlock) (.inl rfl)); have hc8 := HP2.out.cell; have mS := fun k => m_swap k ⟨g, 6, none⟩ W2 _ hc8; have SC := Lib.hid (swap_calls HP2.out i (a2) (by omega) (by omega)); clear L2 hb_2 hc8) | (refine SC.out.mono ?_; rintro e W3 ⟨rfl, HP3, HK3⟩; replace HP3 := Lib.hid HP3; replace HK3 := Lib.hid (KeepBut.trans HK2.out HK3 (.inl rfl)); clear SC) | fail)
              go_roundg k1
              case measure => omega
              case rel => exact ⟨a2, sw m i (a2), rfl, by omega, by rw [sw_len]; exact hml, by omega, HE2, HP3, HK3, by omega⟩
        · have hd3 : decide ((a2 : Int) < (n : Int)) = false := decide_eq_false (by omega)
          rw [if_neg (show ¬ (a2 < n ∧ lt3 (m.getD a2 z51) (m.getD a1 z51) = true) from fun hh => h2 hh.1)] at hE
          obtain ⟨b2, hb2⟩ : ∃ b, lt3 (m.getD (a1) z51) (m.getD i z51) = b := ⟨_, rfl⟩
          rw [hb2] at hE
          cases b2 with
          | false =>
            rw [if_pos rfl] at hE
            have HE2 := Lib.hid hE
            clear hE
            have HP1 := HP
            have HK1 := HK
            have L2 := less_calls HP1.out (a1) i (by omega) (by omega)
            rw [hb2] at L2
            replace L2 := Lib.hid L2
            go_wp2_with (first | (refine L2.out.mono ?_; rintro e W2 ⟨rfl, hb_2⟩; have HP2 := Lib.hid (HP1.out.next hb_2); have HK2 := Lib.hid (KeepBut.trans HK1.out (KeepBut.of_below hb_2 _ (Value.slice A N c).ownBlock) (.inl rfl)); clear L2 hb_2) | fail)
            go_ret
            exact ⟨⟨_, rfl⟩, by rw [← HE2.out]; exact HP2.out, HK2.out⟩
          | true =>
            rw [if_neg (by simp)] at hE
            have HE2 := Lib.hid hE
            clear hE
            have HP1 := HP
            have HK1 := HK
            have L2 := less_calls HP1.out (a1) i (by omega) (by omega)
            rw [hb2] at L2
            replace L2 := Lib.hid L2
            go_wp2_with (first | (refine L2.out.mono ?_; rintro e W2 ⟨rfl, hb_2⟩; have HP2 := Lib.hid (HP1.out.next hb_2); have HK2 := Lib.hid (KeepBut.trans HK1.out (KeepBut.of_below hb_2 _ (Value.slice A N c).ownBlock) (.inl rfl)); have hc8 := HP2.out.cell; have mS := fun k => m_swap k ⟨g, 6, none⟩ W2 _ hc8; have SC := Lib.hid (swap_calls HP2.out i (a1) (by omega) (by omega)); clear L2 hb_2 hc8) | (refine SC.out.mono ?_; rintro e W3 ⟨rfl, HP3, HK3⟩; replace HP3 := Lib.hid HP3; replace HK3 := Lib.hid (KeepBut.trans HK2.out HK3 (.inl rfl)); clear SC) | fail)
            go_roundg k1
            case measure => omega
            case rel => exact ⟨a1, sw m i (a1), rfl, by omega, by rw [sw_len]; exact hml, by omega, HE2, HP3, HK3, by omega⟩
end Go.Proofs.Ytkbimhngbdbgdaa.PPathFinds
