/- Path: the heap of open tiles: up. No condition. -/
import Derived.Test.YtkbimhngbdbgdaaHeap1
namespace Go.Proofs.Ytkbimhngbdbgdaa.PPathFinds
open Go.RowKit Go.Proofs.YtkbimhngbdbgdaaW.PrintWords Go.Proofs.YtkbimhngbdbgdaaW.PrintLast Go.Proofs.YtkbimhngbdbgdaaW.PrintMore
attribute [local go_sem] max2_int min2_int max_two min_two max_three min_three max_four min_four   -- for this text's walks alone
set_option linter.unusedVariables false
set_option linter.unusedSimpArgs false
set_option maxHeartbeats 4000000
set_option maxRecDepth 20000
theorem m_less0 (k : Nat) (a : Addr) (w : World) : (method (k + 1) 69 (.pointer (some a)) "Less").run Try.prog w = ((loadVar 46 a) >>= fun v => pure (55, v)).run Try.prog w := by kernel_rfl
theorem m_less (k : Nat) (a : Addr) (w : World) (v : Value) (hc : w.cell? a = some v) : (method (k + 1) 69 (.pointer (some a)) "Less").run Try.prog w = .ok (55, v) w := by
  rw [m_less0]
  go_simp
theorem m_swap0 (k : Nat) (a : Addr) (w : World) : (method (k + 1) 69 (.pointer (some a)) "Swap").run Try.prog w = ((loadVar 46 a) >>= fun v => pure (56, v)).run Try.prog w := by kernel_rfl
theorem m_swap (k : Nat) (a : Addr) (w : World) (v : Value) (hc : w.cell? a = some v) : (method (k + 1) 69 (.pointer (some a)) "Swap").run Try.prog w = .ok (56, v) w := by
  rw [m_swap0]
  go_simp
theorem m_len0 (k : Nat) (a : Addr) (w : World) : (method (k + 1) 69 (.pointer (some a)) "Len").run Try.prog w = ((loadVar 46 a) >>= fun v => pure (30, v)).run Try.prog w := by kernel_rfl
theorem m_len (k : Nat) (a : Addr) (w : World) (v : Value) (hc : w.cell? a = some v) : (method (k + 1) 69 (.pointer (some a)) "Len").run Try.prog w = .ok (30, v) w := by
  rw [m_len0]
  go_simp
theorem m_push (k : Nat) (a : Addr) (w : World) : (method (k + 1) 69 (.pointer (some a)) "Push").run Try.prog w = .ok (61, .pointer (some a)) w := by kernel_rfl
theorem m_pop (k : Nat) (a : Addr) (w : World) : (method (k + 1) 69 (.pointer (some a)) "Pop").run Try.prog w = .ok (60, .pointer (some a)) w := by kernel_rfl
theorem Hp.cell {w W : World} {g : Nat} {q : SP} {v : Value} {l : List S51} (h : Hp w W g q v l) : W.cell? ⟨g, 6, none⟩ = some v := (blk_cell h.blk 6).trans rfl
theorem less_calls {w W : World} {g : Nat} {q : SP} {A : Option Addr} {n c : Nat} {l : List S51} (h : Hp w W g q (.slice A n c) l) (i j : Nat) (hi : i < l.length) (hj : j < l.length) :
    Calls Try.prog 55 #[.slice A n c, .int .i64 i, .int .i64 j] W fun e W' => e = .returned (.bool (lt3 (l.getD i z51) (l.getD j z51))) ∧ Below W.heap.size W W' := by
  obtain ⟨h1, h2, h3⟩ := Kd.R_reads' h.own
  subst h1
  exact path_nodes_Less.calls 4 A c l i j _ W h3 (by omega) (less_eq (by omega) (by omega) (by omega) (by omega))
theorem swap_calls {w W : World} {g : Nat} {q : SP} {A : Option Addr} {n c : Nat} {l : List S51} (h : Hp w W g q (.slice A n c) l) (i j : Nat) (hi : i < l.length) (hj : j < l.length) :
    Calls Try.prog 56 #[.slice A n c, .int .i64 i, .int .i64 j] W fun e W' => e = .returned (.tuple #[]) ∧ Hp w W' g q (.slice A n c) (sw l i j) ∧ KeepBut W W' g (Value.slice A n c).ownBlock := by
  refine (path_nodes_Swap.calls _ (.slice A n c) l i j (sw l i j) w W h.bel (R51_ok h.own) (swap_eq hi hj)).mono ?_
  rintro e W' ⟨rfl, hR, hB, hK⟩
  refine ⟨rfl, ⟨hB, ?_, h.gb, Kd.R_mono hR (fun _ _ => trivial)⟩, hK.1, fun k hk hg hr => hK.2 k hk (fun e => hr e.symm)⟩
  exact (hK.2 g (blk_lt h.blk) (fun e => h.ne e.symm)).trans h.blk
theorem heap_up_calls (w W : World) (g : Nat) (q : SP) (v : Value) (l : List S51) (j : Nat) (hl : l.length ≤ 1000000) (hj : j < l.length) (H : Hp w W g q v l) :
    Calls Try.prog 34 #[.iface 69 (.pointer (some ⟨g, 6, none⟩)), .int .i64 j] W fun e W' => e = .returned (.tuple #[]) ∧ Hp w W' g q v (hp_up (j + 1) l j) ∧ KeepBut W W' g v.ownBlock := by
  obtain ⟨A, c, rfl, hlc, -⟩ := H.form
  obtain ⟨n, hn⟩ : ∃ n, l.length = n := ⟨_, rfl⟩
  obtain ⟨T, hT⟩ : ∃ T, hp_up (j + 1) l j = T := ⟨_, rfl⟩
  rw [hn] at H ⊢ hlc
  rw [hT]
  have HH := Lib.hid H
  have HT := Lib.hid hT
  clear H hT
  go_enter Try.func34, Try.ntmps34
  go_wp2
  go_loopg [1] (j + 1) (fun kq v1 w' => ∃ (i : Nat) (m : List S51), v1 = .int .i64 i ∧ i < kq ∧ m.length = n ∧ i < n ∧ RowKit.Hid (hp_up kq m i = T) ∧ RowKit.Hid (Hp w w' g q (.slice A n c) m) ∧ RowKit.Hid (KeepBut W w' g (Value.slice A n c).ownBlock) ∧ kq ≤ j + 1)
  case atStart => exact ⟨j, l, rfl, by omega, hn, by omega, HT, HH, Lib.hid (KeepBut.refl _ _ _), by omega⟩
  case round =>
    clear HH HT
    obtain ⟨i, m, rfl, hik, hml, hil, HE, HP, HK, hkj⟩ := hrel
    cases gk with
    | zero => omega
    | succ k1 =>
      have hq : ((i : Int) - 1).tdiv 2 = (((i - 1) / 2 : Nat) : Int) := by
        rcases Nat.eq_zero_or_pos i with rfl | hi
        · rfl
        · rw [Int.tdiv_eq_ediv_of_nonneg (by omega)]; omega
      obtain ⟨p, hp⟩ : ∃ p : Nat, (i - 1) / 2 = p := ⟨_, rfl⟩
      rw [hp] at hq
      have hE := HE.out
      unfold hp_up at hE
      rw [hp] at hE
      by_cases hip : p = i
      · rw [if_pos (.inl hip)] at hE
        have HE2 := Lib.hid hE
        clear hE HE
        have hpi : (p : Int) = i := by omega
        go_wp2
        first | go_end0 | ((try simp only [Exit.inBlock, Exit.then]); refine bodyPost_ret (results_none rfl _ _ _) rfl ?_)
        exact ⟨rfl, by rw [← HE2.out]; exact HP.out, HK.out⟩
      · have hpn : p < n := by omega
        have hc6 := HP.out.cell
        have mL := fun k => m_less k ⟨g, 6, none⟩ wr _ hc6
        have hb1 : ((p : Int) == (i : Int)) = false := by simpa using (show ¬ (p : Int) = i by omega)
        have LC := less_calls HP.out i p (by omega) (by omega)
        obtain ⟨b, hb⟩ : ∃ b, lt3 (m.getD i z51) (m.getD p z51) = b := ⟨_, rfl⟩
        rw [hb] at hE LC
        replace LC := Lib.hid LC
        cases b with
        | false =>
          rw [if_pos (.inr rfl)] at hE
          have HE2 := Lib.hid hE
          clear hE HE hb
          go_wp2_with (first | (refine LC.out.mono ?_; rintro e W1 ⟨rfl, hbb⟩) | fail)
          first | go_end0 | ((try simp only [Exit.inBlock, Exit.then]); refine bodyPost_ret (results_none rfl _ _ _) rfl ?_)
          exact ⟨rfl, by rw [← HE2.out]; exact HP.out.next hbb, KeepBut.trans HK.out (KeepBut.of_below hbb _ _) (.inl rfl)⟩
        | true =>
          rw [if_neg (by simp [hip])] at hE
          have HE2 := Lib.hid hE
          clear hE HE hb
          go_wp2_with (first
            | (refine LC.out.mono ?_; rintro e W1 ⟨rfl, hbb⟩; have HP1 := Lib.hid (HP.out.next hbb); have HK1 := Lib.hid (KeepBut.trans HK.out (KeepBut.of_below hbb _ (Value.slice A n c).ownBlock) (.inl rfl)); have hc7 := HP1.out.cell; have mS := fun k => m_swap k ⟨g, 6, none⟩ W1 _ hc7; have SC := Lib.hid (swap_calls HP1.out p i (by omega) (by omega)); clear mL hc6 hc7 HP HK LC hbb)
            | (refine SC.out.mono ?_; rintro e W2 ⟨rfl, HP2, HK2⟩; replace HP2 := Lib.hid HP2; replace HK2 := Lib.hid (KeepBut.trans HK1.out HK2 (.inl rfl)))
            | fail)
          go_roundg k1
          case measure => omega
          case rel => exact ⟨p, sw m p i, rfl, by omega, by rw [sw_len]; exact hml, hpn, HE2, HP2, HK2, by omega⟩
end Go.Proofs.Ytkbimhngbdbgdaa.PPathFinds
