import Derived.Test.YtocadookdkmahaaVDlDiffs
import Derived.Test.YtocadookdkmahaaHA
import Derived.Test.YtocadookdkmahaaRowB
namespace Go.Proofs.Ytocadookdkmahaa.PDl
open Go.RowKit Go.Proofs.YtocadookdkmahaaW.PrintWords Go.Proofs.YtocadookdkmahaaW.PrintLast
open Go.Proofs.Ytocadookdkmahaa.VLz (IsRow row_bytes)
open Go.Proofs.Ytocadookdkmahaa.PLz (IsB)
set_option linter.unusedVariables false
theorem diffs_law (A0 : Option Addr) (n0 c0 : Nat) (zs0 : List Int) (A1 : Option Addr) (n1 c1 : Nat) (zs1 : List Int) (W : World) (h0 : IsRow .u8 W A0 n0 c0 zs0) (h1 : IsRow .u8 W A1 n1 c1 zs1) :
    Calls Try.prog 3 #[.slice A0 n0 c0, .slice A1 n1 c1] W fun e w' => e = .returned (.bool true) ∧ Below W.heap.size W w' := by
  by_cases hb : 400 < n0 ∨ 400 < n1
  · exact diffs_big A0 n0 c0 A1 n1 c1 W hb
  · obtain ⟨hC0, hl0, hlc0, hr0⟩ := row_bytes h0
    obtain ⟨hC1, hl1, hlc1, hr1⟩ := row_bytes h1
    obtain ⟨k, hk⟩ := diffs_ref (a := zs0.take n0) (b := zs1.take n1) hr0 hr1 (by omega) (by omega)
    have hk := hk k (Nat.le_refl _)
    have := diffs_walk _ k A0 c0 (zs0.take n0) A1 c1 (zs1.take n1) (dl_mix (zs0.take n0) (zs1.take n1)) W (by rw [hl0]; exact hC0) (by omega) (by rw [hl1]; exact hC1) (by omega) (by omega) (by omega) (dl_mix_f _ _ (by omega) (by omega)) (dl_mix_isB hr0 hr1) (by rw [dl_mix_len]; omega) hk
    rwa [hl0, hl1] at this
end Go.Proofs.Ytocadookdkmahaa.PDl
