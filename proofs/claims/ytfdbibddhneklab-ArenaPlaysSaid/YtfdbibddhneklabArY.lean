import Derived.Test.YtfdbibddhneklabArX
namespace Go.Proofs.Ytfdbibddhneklab.Arena
open Go.RowKit Go.ChangeShapes Go.WideShapes
set_option linter.unusedVariables false
set_option maxRecDepth 100000
theorem plays_big (A : Option Addr) (len cap : Nat) (ask : Int) (w : World) (hlen : 300 < len) : Calls Try.prog 7 #[.slice A len cap, .int .u16 ask] w fun e w' => e = .returned (.bool true) ∧ Below w.heap.size w w' := by
  have hl : (300 : Int) < len := by omega
  have HK := Lib.hid (fun W => wakes_any W)
  go_enter Try.func7, Try.ntmps7
  go_wp2_with fail
  refine (HK.out _).mono ?_; rintro e w6 ⟨rfl, b6⟩
  go_wp2_with fail
  go_ret
  exact ⟨rfl, b6⟩
theorem plays_law (A : Option Addr) (len cap : Nat) (ask : Int) (W : World) (h : ∃ (D : Nat → Int) (Id : Nat → Nat) (X : Nat → Int), Acts W A len D Id X) (ha : (Lit.int .u16 ask).wf = true) : Calls Try.prog 7 #[.slice A len cap, .int .u16 ask] W fun e w' => e = .returned (.bool true) ∧ Below W.heap.size W w' := by
  by_cases hl : 300 < len
  · exact plays_big A len cap ask W hl
  · obtain ⟨D, Id, X, hA⟩ := h
    have hr : 0 ≤ ask ∧ ask < 65536 := by simp [Lit.wf, IntKind.min, IntKind.max, IntKind.bits, IntKind.signed] at ha; omega
    obtain ⟨n, rfl⟩ := Int.eq_ofNat_of_zero_le hr.1
    exact plays_walk A len cap D Id X n W hA (by omega) (by omega)
end Go.Proofs.Ytfdbibddhneklab.Arena
