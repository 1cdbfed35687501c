import Derived.Test.YtfdbibddhneklacVWire
namespace Go.Proofs.Ytfdbibddhneklac.PWireBack
open Go.RowKit Go.Proofs.YtfdbibddhneklacW.PrintWords Go.Proofs.YtfdbibddhneklacW.PrintLast Go.Proofs.YtfdbibddhneklacW.PrintMore
set_option linter.unusedVariables false
theorem wire_rd_nil (k : FuncId) (caps : Array Value) (w : World) : Calls Try.prog 51 #[.pointer none, .func (.func k) #[] caps] w fun e w' => e = .returned (.tuple #[]) ∧ w' = w := by
  go_enter Try.func51, Try.ntmps51
  go_wp2_with fail
  refine bodyPost_ret (results_none rfl _ _ _) rfl ?_
  exact ⟨rfl, rfl⟩
theorem wire_Num_nil (w : World) : Calls Try.prog 35 #[.pointer none] w fun e w' => e = .returned (.int .u64 0) ∧ Below w.heap.size w w' := by
  have RD := fun k caps W => wire_rd_nil k caps W
  have RD := Lib.hid RD
  go_enter Try.func35, Try.ntmps35
  go_wp2_with fail
  refine (RD.out _ _ _).mono ?_; rintro e w1 ⟨rfl, rfl⟩
  go_wp2_with fail
  refine bodyPost_ret (wire_res rfl _ _ ⟨w.heap.size, 0, none⟩ _ _ rfl Try.underlying44 rfl (blk_cell (heap_alloc_new w (.cells #[.int .u64 0] 44)) 0)) rfl ?_
  exact ⟨rfl, below_alloc (Below.refl _ _) _⟩
theorem wire_Int_nil (w : World) : Calls Try.prog 42 #[.pointer none] w fun e w' => e = .returned (.int .i64 0) ∧ Below w.heap.size w w' := by
  have RD := fun k caps W => wire_rd_nil k caps W
  have RD := Lib.hid RD
  go_enter Try.func42, Try.ntmps42
  go_wp2_with fail
  refine (RD.out _ _ _).mono ?_; rintro e w1 ⟨rfl, rfl⟩
  go_wp2_with fail
  refine bodyPost_ret (wire_res rfl _ _ ⟨w.heap.size, 0, none⟩ _ _ rfl Try.underlying3 rfl (blk_cell (heap_alloc_new w (.cells #[.int .i64 0] 3)) 0)) rfl ?_
  exact ⟨rfl, below_alloc (Below.refl _ _) _⟩
theorem wire_Text_nil (a1 : Int) (w : World) : Calls Try.prog 38 #[.pointer none, .int .i64 a1] w fun e w' => e = .returned (.string ⟨#[]⟩) ∧ Below w.heap.size w w' := by
  have RD := fun k caps W => wire_rd_nil k caps W
  have RD := Lib.hid RD
  go_enter Try.func38, Try.ntmps38
  go_wp2_with fail
  refine (RD.out _ _ _).mono ?_; rintro e w1 ⟨rfl, rfl⟩
  go_wp2_with fail
  refine bodyPost_ret (wire_res rfl _ _ ⟨w.heap.size + 1, 0, none⟩ _ _ rfl Try.underlying9 rfl (blk_cell (wire_W2_o w a1 (.string ⟨#[]⟩) 9) 0)) rfl ?_
  exact ⟨rfl, wire_W2_b ..⟩
theorem wire_Bytes_nil (a1 : Int) (w : World) : Calls Try.prog 43 #[.pointer none, .int .i64 a1] w fun e w' => e = .returned (.slice none 0 0) ∧ Below w.heap.size w w' := by
  have RD := fun k caps W => wire_rd_nil k caps W
  have RD := Lib.hid RD
  go_enter Try.func43, Try.ntmps43
  go_wp2_with fail
  refine (RD.out _ _ _).mono ?_; rintro e w1 ⟨rfl, rfl⟩
  go_wp2_with fail
  refine bodyPost_ret (wire_res rfl _ _ ⟨w.heap.size + 1, 0, none⟩ _ _ rfl Try.underlying43 rfl (blk_cell (wire_W2_o w a1 (.slice none 0 0) 43) 0)) rfl ?_
  exact ⟨rfl, wire_W2_b ..⟩
theorem wire_Signed_nil (w : World) : Calls Try.prog 36 #[.pointer none] w fun e w' => e = .returned (.int .i64 0) ∧ Below w.heap.size w w' := by
  have hN := Lib.hid (fun W => wire_Num_nil W)
  go_enter Try.func36, Try.ntmps36
  go_wp2_with fail
  refine (hN.out _).mono ?_; rintro e w1 ⟨rfl, hb⟩
  go_wp2_with fail
  go_ret
  exact ⟨congrArg (fun x => Ending.returned (Value.int .i64 x)) (show bits .xor .i64 0 (wrap64 (-wrap64 (bits .and .u64 0 1))) = 0 by decide +kernel), hb⟩
theorem wire_Fixed_nil (w : World) : Calls Try.prog 37 #[.pointer none] w fun e w' => e = .returned (.int .u32 0) ∧ Below w.heap.size w w' := by
  have hN := Lib.hid (fun W => wire_Bytes_nil 4 W)
  go_enter Try.func37, Try.ntmps37
  go_wp2_with fail
  refine (hN.out _).mono ?_; rintro e w1 ⟨rfl, hb⟩
  go_wp2_with fail
  go_loop [2, 8] (fun a d => a = .int .u32 0 ∧ d = .int .i64 0) (fun _ _ => 0)
  case atStart => exact ⟨rfl, rfl⟩
  case round =>
    obtain ⟨rfl, rfl⟩ := hrel
    go_wp2_with fail
    go_ret
    exact ⟨rfl, hb⟩
theorem wire_At_nil (w : World) : Calls Try.prog 41 #[.pointer none] w fun e w' => e = .returned (.int .i64 0) ∧ w' = w := by
  go_enter Try.func41, Try.ntmps41
  go_wp2_with fail
  go_ret
  exact ⟨rfl, rfl⟩
theorem wire_Left_nil (w : World) : Calls Try.prog 40 #[.pointer none] w fun e w' => e = .returned (.int .i64 0) ∧ w' = w := by
  go_enter Try.func40, Try.ntmps40
  go_wp2_with fail
  go_ret
  exact ⟨rfl, rfl⟩
theorem wire_Err_nil (w : World) : Calls Try.prog 39 #[.pointer none] w fun e w' => e = .returned (.int .i64 1) ∧ w' = w := by
  go_enter Try.func39, Try.ntmps39
  go_wp2_with fail
  go_ret
  exact ⟨rfl, rfl⟩
theorem wire_End_nil (w : World) : Calls Try.prog 44 #[.pointer none] w fun e w' => e = .returned (.int .i64 1) ∧ w' = w := by
  have hN := Lib.hid (fun W => wire_Err_nil W)
  go_enter Try.func44, Try.ntmps44
  go_wp2_with fail
  refine (hN.out _).mono ?_; rintro e w1 ⟨rfl, rfl⟩
  go_wp2_with fail
  go_ret
  exact ⟨rfl, rfl⟩
theorem wire_Nil_walk (a1 : Int) (w : World) : Calls Try.prog 6 #[.int .i64 a1] w fun e w' => e = .returned (.bool true) ∧ Below w.heap.size w w' := by
  have h0 := Lib.hid (fun W => wire_Num_nil W)
  have h1 := Lib.hid (fun W => wire_Int_nil W)
  have h2 := Lib.hid (fun W => wire_Signed_nil W)
  have h3 := Lib.hid (fun W => wire_Fixed_nil W)
  have h4 := Lib.hid (fun W => wire_Text_nil a1 W)
  have h5 := Lib.hid (fun W => wire_Bytes_nil a1 W)
  have h6 := Lib.hid (fun W => wire_At_nil W)
  have h7 := Lib.hid (fun W => wire_Left_nil W)
  have h8 := Lib.hid (fun W => wire_Err_nil W)
  have h9 := Lib.hid (fun W => wire_End_nil W)
  have h10 := Lib.hid (fun W => rematchlaw01_wakes.calls0 W)
  have H := Below.refl w.heap.size w
  go_enter Try.func6, Try.ntmps6
  go_wp2_with fail
  refine (h0.out _).mono ?_; rintro e w1 ⟨rfl, b⟩
  replace H := below_then H H.size b
  clear b
  go_wp2_with fail
  refine (h1.out _).mono ?_; rintro e w2 ⟨rfl, b⟩
  replace H := below_then H H.size b
  clear b
  go_wp2_with fail
  refine (h2.out _).mono ?_; rintro e w3 ⟨rfl, b⟩
  replace H := below_then H H.size b
  clear b
  go_wp2_with fail
  refine (h3.out _).mono ?_; rintro e w4 ⟨rfl, b⟩
  replace H := below_then H H.size b
  clear b
  go_wp2_with fail
  refine (h4.out _).mono ?_; rintro e w5 ⟨rfl, b⟩
  replace H := below_then H H.size b
  clear b
  go_wp2_with fail
  refine (h5.out _).mono ?_; rintro e w6 ⟨rfl, b⟩
  replace H := below_then H H.size b
  clear b
  go_wp2_with fail
  refine (h6.out _).mono ?_; rintro e w7 ⟨rfl, rfl⟩
  go_wp2_with fail
  refine (h7.out _).mono ?_; rintro e w8 ⟨rfl, rfl⟩
  go_wp2_with fail
  refine (h8.out _).mono ?_; rintro e w9 ⟨rfl, rfl⟩
  go_wp2_with fail
  refine (h9.out _).mono ?_; rintro e w10 ⟨rfl, rfl⟩
  go_wp2_with fail
  refine (h10.out _).mono ?_; rintro e w11 ⟨rfl, b⟩
  replace H := below_then H H.size b
  clear b
  go_wp2_with fail
  go_ret
  exact ⟨rfl, H⟩
end Go.Proofs.Ytfdbibddhneklac.PWireBack
