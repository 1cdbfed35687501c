import Derived.Test.YtocadookdkmahaaVDlBack
import Derived.Test.YtocadookdkmahaaI3
import Derived.Test.YtocadookdkmahaaRowB
namespace Go.Proofs.Ytocadookdkmahaa.PDl
open Go.RowKit Go.Proofs.YtocadookdkmahaaW.PrintWords Go.Proofs.YtocadookdkmahaaW.PrintLast
open Go.Proofs.Ytocadookdkmahaa.VLz (IsRow row_bytes)
open Go.Proofs.Ytocadookdkmahaa.PLz (IsB)
set_option linter.unusedVariables false
theorem back_law (A0 : Option Addr) (n0 c0 : Nat) (zs0 : List Int) (A1 : Option Addr) (n1 c1 : Nat) (zs1 : List Int) (A2 : Option Addr) (n2 c2 : Nat) (zs2 : List Int) (W : World) (h0 : IsRow .u8 W A0 n0 c0 zs0) (h1 : IsRow .u8 W A1 n1 c1 zs1) (h2 : IsRow .u8 W A2 n2 c2 zs2) :
    Calls Try.prog 4 #[.slice A0 n0 c0, .slice A1 n1 c1, .slice A2 n2 c2] W fun e w' => e = .returned (.bool true) ∧ Below W.heap.size W w' := by
  by_cases hb : 3000 < n0 ∨ 3000 < n1 ∨ 3000 < n2
  · exact back_big A0 n0 c0 A1 n1 c1 A2 n2 c2 W hb
  · obtain ⟨hC0, hl0, hlc0, hr0⟩ := row_bytes h0
    obtain ⟨hC1, hl1, hlc1, hr1⟩ := row_bytes h1
    obtain ⟨hC2, hl2, hlc2, hr2⟩ := row_bytes h2
    obtain ⟨a, ha⟩ : ∃ a, zs0.take n0 = a := ⟨_, rfl⟩
    obtain ⟨b, hbb⟩ : ∃ b, zs1.take n1 = b := ⟨_, rfl⟩
    obtain ⟨d, hd⟩ : ∃ d, zs2.take n2 = d := ⟨_, rfl⟩
    rw [ha] at hC0 hl0 hr0
    rw [hbb] at hC1 hl1 hr1
    rw [hd] at hC2 hl2 hr2
    have hMB := dl_mix_isB hr0 hr1
    have hMl := dl_mix_len a b
    have hXl := dl_diff_len (dl_mix a b) (by omega)
    rw [hMl] at hXl
    have hZl := dl_mix_len b b
    have hZ3 := dl_diff_zeros b.length (by omega)
    rw [← dl_mix_self] at hZ3
    obtain ⟨y, e, hy, hy0, hy1⟩ := apply_any hr0 hr2 (by omega) (by omega) (Nat.le_refl 10000)
    have := back_walk 10000 A0 c0 a A1 c1 b A2 c2 d (dl_mix a b) _ (dl_mix b b) y e W (by rw [hl0]; exact hC0) (by omega) (by rw [hl1]; exact hC1) (by omega) (by rw [hl2]; exact hC2) (by omega)
      (by omega) (by omega) (by omega) (mix_fk (by omega) (by omega) (by omega)) hMB (by omega) rfl hXl (apply_back hr0 hr1 (by omega) (by omega) (Nat.le_refl 10000))
      (mix_fk (by omega) (by omega) (by omega)) (dl_mix_isB hr1 hr1) (by omega) hZ3 hy hy0
      (fun he => by
        obtain ⟨hB, hl, hq⟩ := hy1 he
        exact ⟨by omega, dl_mix a y, mix_fk (by omega) (by omega) (by omega), dl_mix_isB hr0 hB, by rw [dl_mix_len]; omega, hq⟩)
    rwa [hl0, hl1, hl2] at this
end Go.Proofs.Ytocadookdkmahaa.PDl
