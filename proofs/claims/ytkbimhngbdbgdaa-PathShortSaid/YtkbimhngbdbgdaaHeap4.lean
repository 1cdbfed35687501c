/- Path: a node comes onto the heap; the least is taken off. No condition. -/
import Derived.Test.YtkbimhngbdbgdaaPush
import Derived.Test.YtkbimhngbdbgdaaPPathFindsx1
namespace Go.Proofs.Ytkbimhngbdbgdaa.PPathFinds
open Go.RowKit Go.Proofs.YtkbimhngbdbgdaaW.PrintWords Go.Proofs.YtkbimhngbdbgdaaW.PrintLast Go.Proofs.YtkbimhngbdbgdaaW.PrintMore
attribute [local go_sem] max2_int min2_int max_two min_two max_three min_three max_four min_four   -- for this text's walks alone
set_option linter.unusedVariables false
set_option linter.unusedSimpArgs false
set_option maxHeartbeats 4000000
set_option maxRecDepth 20000
def hp_push (l : List S51) (x : S51) : List S51 := hp_up (l.length + 1) (l ++ [x]) l.length
theorem hp_push_len (l : List S51) (x : S51) : (hp_push l x).length = l.length + 1 := by simp [hp_push, hp_up_len]
def Mv (W : World) (v v' : Value) : Prop := v'.ownBlock = v.ownBlock ∨ ∃ b, v'.ownBlock = some b ∧ W.heap.size ≤ b
theorem len_calls {w W : World} {g : Nat} {q : SP} {v : Value} {l : List S51} (h : Hp w W g q v l) :
    Calls Try.prog 30 #[v] W fun e W' => e = .returned (.int .i64 (l.length : Int)) ∧ Below W.heap.size W W' := by
  obtain ⟨A, c, rfl, hc, hC⟩ := h.form
  exact (path_nodes_Len.calls A c l _ W hC hc rfl).mono (fun e w' ⟨h1, h2⟩ => ⟨h1, by exact h2.below⟩)
theorem heap_Push_calls (w W : World) (g : Nat) (q : SP) (v : Value) (l : List S51) (x : S51) (hl : l.length < 1000000) (H : Hp w W g q v l) :
    Calls Try.prog 28 #[.iface 69 (.pointer (some ⟨g, 6, none⟩)), .iface 51 (.agg #[.int .i64 x.f0, .int .i64 x.f1, .int .i64 x.f2])] W fun e W' => e = .returned (.tuple #[]) ∧ ∃ v', Hp w W' g q v' (hp_push l x) ∧ KeepBut W W' g v.ownBlock ∧ Mv W v v' := by
  have HP := Lib.hid H
  have PC := Lib.hid (nodes_Push_calls w W g q v l x (by omega) H)
  clear H
  have mP := fun k => m_push k ⟨g, 6, none⟩ W
  go_enter Try.func28, Try.ntmps28
  go_wp2_with (first
    | (refine PC.out.mono ?_; rintro e W1 ⟨rfl, v1, HP1, HK1, HM1⟩; replace HP1 := Lib.hid HP1; replace HK1 := Lib.hid HK1; replace HM1 := Lib.hid HM1; have hc6 := HP1.out.cell; have mL := fun k => m_len k ⟨g, 6, none⟩ W1 _ hc6; have LC := len_calls HP1.out; rw [List.length_append, List.length_singleton] at LC; replace LC := Lib.hid LC; clear hc6 PC mP HP)
    | (refine LC.out.mono ?_; rintro e W2 ⟨rfl, hb2⟩; have HP2 := Lib.hid (HP1.out.next hb2); have HK2 := Lib.hid (KeepBut.trans HK1.out (KeepBut.of_below hb2 g v.ownBlock) (.inl rfl)); clear LC hb2; have UC := Lib.hid (heap_up_calls w W2 g q v1 (l ++ [x]) l.length (by simp; omega) (by simp) HP2.out); have ew : ((l.length + 1 : Nat) : Int) - 1 = (l.length : Int) := by omega)
    | (refine UC.out.mono ?_; rintro e W3 ⟨rfl, HP3, HK3⟩; replace HP3 := Lib.hid HP3; replace HK3 := Lib.hid HK3; clear UC)
    | fail)
  first | go_end0 | ((try simp only [Exit.inBlock, Exit.then]); refine bodyPost_ret (results_none rfl _ _ _) rfl ?_)
  refine ⟨rfl, v1, HP3.out, KeepBut.trans HK2.out HK3.out ?_, HM1.out⟩
  exact HM1.out
end Go.Proofs.Ytkbimhngbdbgdaa.PPathFinds
