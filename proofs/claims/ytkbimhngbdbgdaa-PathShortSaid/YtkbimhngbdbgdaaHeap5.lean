/- Path: the last node is cut off (nodes.Pop). No condition. -/
import Derived.Test.YtkbimhngbdbgdaaHeap4
namespace Go.Proofs.Ytkbimhngbdbgdaa.PPathFinds
open Go.RowKit Go.Proofs.YtkbimhngbdbgdaaW.PrintWords Go.Proofs.YtkbimhngbdbgdaaW.PrintLast Go.Proofs.YtkbimhngbdbgdaaW.PrintMore
attribute [local go_sem] max2_int min2_int max_two min_two max_three min_three max_four min_four   -- for this text's walks alone
set_option linter.unusedVariables false
set_option linter.unusedSimpArgs false
set_option maxHeartbeats 4000000
set_option maxRecDepth 20000
theorem nodes_Pop_calls (w W : World) (g : Nat) (q : SP) (v : Value) (l : List S51) (n : Nat) (hn : l.length = n + 1) (hl : l.length ≤ 1000000) (H : Hp w W g q v l) :
    Calls Try.prog 60 #[.pointer (some ⟨g, 6, none⟩)] W fun e W' => e = .returned (.iface 51 (.agg #[.int .i64 (rd_T51 l n).f0, .int .i64 (rd_T51 l n).f1, .int .i64 (rd_T51 l n).f2])) ∧ ∃ v', Hp w W' g q v' (l.take n) ∧ KeepBut W W' g v.ownBlock ∧ v'.ownBlock = v.ownBlock := by
  obtain ⟨A, c, rfl, hlc, hC⟩ := H.form
  obtain ⟨ad, hA, hx0, hx1, hx2⟩ := at_T51 hC (n : Int) (by omega) (by omega)
  subst hA
  have hc6 := H.cell
  have hf6 : W.frozen? ⟨g, 6, none⟩ = false := blk_frozen H.blk 6
  obtain ⟨y0, hy0⟩ : ∃ y, (rd_T51 l n).f0 = y := ⟨_, rfl⟩
  obtain ⟨y1, hy1⟩ : ∃ y, (rd_T51 l n).f1 = y := ⟨_, rfl⟩
  obtain ⟨y2, hy2⟩ : ∃ y, (rd_T51 l n).f2 = y := ⟨_, rfl⟩
  rw [hy0] at hx0 ⊢
  rw [hy1] at hx1 ⊢
  rw [hy2] at hx2 ⊢
  clear hy0 hy1 hy2
  rw [Int.toNat_natCast] at hx0 hx1 hx2
  have HN := Lib.hid hn
  rw [hn] at hc6 hlc
  have ew : ((n + 1 : Nat) : Int) - 1 = (n : Int) := by omega
  rw [hn] at H
  have HP := Lib.hid H
  have hgl := blk_lt H.blk
  have hba := below_alloc (Below.refl W.heap.size W) (.cells #[.int .i64 y0, .int .i64 y1, .int .i64 y2] 51)
  have HA := H.next hba
  have a6 := HA.cell
  have af6 := blk_frozen HA.blk 6
  have hnb := blk_new W (.cells #[.int .i64 y0, .int .i64 y1, .int .i64 y2] 51)
  have hst := blk_far hnb (p := ⟨g, 6, none⟩) (show W.heap.size ≠ g by omega) (.slice (some ad) n c)
  have b0 := (blk_cell hst 0).trans rfl
  have b1 := (blk_cell hst 1).trans rfl
  have b2 := (blk_cell hst 2).trans rfl
  have HAH := Lib.hid HA
  have HBA := Lib.hid hba
  clear hba HA hnb hst H hC
  go_enter Try.func60, Try.ntmps60
  go_wp2
  go_ret
  have hR := Kd.R_take HP.out.own (show n ≤ l.length by omega)
  have HS : Hp w (W.setCell ⟨g, 6, none⟩ (.slice (some ad) n c)) g q (.slice (some ad) n c) (l.take n) := ⟨HP.out.bel.setCell HP.out.gb _, (blk_set HP.out.blk 6 _).trans rfl, HP.out.gb, Kd.R_set hR HP.out.blk (by decide) 6 _⟩
  exact ⟨rfl, .slice (some ad) n c, HS.next (below_alloc (Below.refl _ _) _), KeepBut.trans (KeepBut.set_ (KeepBut.refl W g (Value.slice (some ad) l.length c).ownBlock) 6 _) (KeepBut.of_below (below_alloc (Below.refl _ _) _) g _) (.inl rfl), rfl⟩
def hp_pop (l : List S51) : List S51 := hp_down l.length (sw l 0 (l.length - 1)) 0 (l.length - 1)
theorem hp_pop_len (l : List S51) : (hp_pop l).length = l.length := by simp [hp_pop, hp_down_len, sw_len]
theorem heap_Pop_calls (w W : World) (g : Nat) (q : SP) (v : Value) (l : List S51) (n : Nat) (hn : l.length = n + 1) (hl : l.length ≤ 1000000) (H : Hp w W g q v l) :
    Calls Try.prog 31 #[.iface 69 (.pointer (some ⟨g, 6, none⟩))] W fun e W' => e = .returned (.iface 51 (.agg #[.int .i64 (rd_T51 (hp_pop l) n).f0, .int .i64 (rd_T51 (hp_pop l) n).f1, .int .i64 (rd_T51 (hp_pop l) n).f2])) ∧ ∃ v', Hp w W' g q v' ((hp_pop l).take n) ∧ KeepBut W W' g v.ownBlock ∧ Mv W v v' := by
  obtain ⟨A, c, rfl, hlc, -⟩ := H.form
  rw [hn] at H hlc ⊢
  have hc6 := H.cell
  have mL := fun k => m_len k ⟨g, 6, none⟩ W _ hc6
  have LC := len_calls H
  rw [hn] at LC
  replace LC := Lib.hid LC
  have ew : ((n + 1 : Nat) : Int) - 1 = (n : Int) := by omega
  have hpp : hp_down (n + 1) (sw l 0 n) 0 n = hp_pop l := by unfold hp_pop; rw [hn, Nat.add_sub_cancel]
  have HPP := Lib.hid hpp
  have HP := Lib.hid H
  have hpl := hp_pop_len l
  clear H hpp
  go_enter Try.func31, Try.ntmps31
  go_wp2_with (first
    | (refine LC.out.mono ?_; rintro e W1 ⟨rfl, hb1⟩; have HP1 := Lib.hid (HP.out.next hb1); have HK1 := Lib.hid (KeepBut.of_below hb1 g (Value.slice A (n + 1) c).ownBlock); have hc7 := HP1.out.cell; have mS := fun k => m_swap k ⟨g, 6, none⟩ W1 _ hc7; have SC := Lib.hid (swap_calls HP1.out 0 n (by omega) (by omega)); clear LC hb1 mL hc6 hc7)
    | (refine SC.out.mono ?_; rintro e W2 ⟨rfl, HP2, HK2⟩; replace HP2 := Lib.hid HP2; replace HK2 := Lib.hid HK2; have DC := heap_down_calls w W2 g q _ (sw l 0 n) 0 n (by rw [sw_len]; omega) (by omega) (by rw [sw_len]; omega) HP2.out; rw [HPP.out] at DC; replace DC := Lib.hid DC; clear SC mS)
    | (refine DC.out.mono ?_; rintro e W3 ⟨⟨bb, rfl⟩, HP3, HK3⟩; replace HP3 := Lib.hid HP3; replace HK3 := Lib.hid HK3; have mO := fun k => m_pop k ⟨g, 6, none⟩ W3; have PC := Lib.hid (nodes_Pop_calls w W3 g q _ (hp_pop l) n (by omega) (by omega) HP3.out); clear DC)
    | (refine PC.out.mono ?_; rintro e W4 ⟨rfl, v4, HP4, HK4, HM4⟩; replace HP4 := Lib.hid HP4; replace HK4 := Lib.hid HK4; replace HM4 := Lib.hid HM4; clear PC mO)
    | fail)
  go_ret
  exact ⟨rfl, v4, HP4.out, KeepBut.trans (KeepBut.trans (KeepBut.trans HK1.out HK2.out (.inl rfl)) HK3.out (.inl rfl)) HK4.out (.inl rfl), .inl HM4.out⟩
end Go.Proofs.Ytkbimhngbdbgdaa.PPathFinds
