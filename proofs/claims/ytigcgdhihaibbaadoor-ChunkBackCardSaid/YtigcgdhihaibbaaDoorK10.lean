/- Chunk: from the argument's rows to the law's walks. No condition. -/
import Derived.Test.YtigcgdhihaibbaaDoorK9
namespace Go.Proofs.YtigcgdhihaibbaaDoor
open Go.RowKit Go.Proofs.YtigcgdhihaibbaaDoor.PLz Go.Proofs.YtigcgdhihaibbaaDoorW.PrintWords Go.Proofs.YtigcgdhihaibbaaDoorW.PrintLast Go.Proofs.YtigcgdhihaibbaaDoorW.PrintMore
set_option linter.unusedVariables false
theorem row_u8 {n : Int} (h : (Lit.int .u8 n).wf = true) : 0 ≤ n ∧ n < 256 := by
  simp [Lit.wf, IntKind.min, IntKind.max, IntKind.bits, IntKind.signed] at h
  omega
theorem row_u16 {n : Int} (h : (Lit.int .u16 n).wf = true) : 0 ≤ n ∧ n < 65536 := by
  simp [Lit.wf, IntKind.min, IntKind.max, IntKind.bits, IntKind.signed] at h
  omega
theorem row_bytes {W : World} {A : Option Addr} {len cap : Nat} {zs : List Int} (h : IsRow .u8 W A len cap zs) :
    Kd.C (Kd.int .u8) W A len (zs.take len) ∧ (zs.take len).length = len ∧ len ≤ cap ∧ ∀ x ∈ zs.take len, 0 ≤ x ∧ x < 256 := by
  rcases h with ⟨rfl, rfl, rfl, rfl⟩ | ⟨x, rfl, hl, hm, hz, hc, hw⟩
  · exact ⟨Kd.C_nil _ _, rfl, Nat.le_refl _, fun x hx => by simp at hx⟩
  · have hlen : (zs.take len).length = len := by rw [List.length_take]; omega
    refine ⟨⟨hlen, by simp [maxLen] at hm; omega, fun _ => ⟨x, rfl, fun j p hj => ⟨[.int .u8 p], rfl, rfl, fun i u hi => ?_⟩⟩⟩, hlen, hl, fun y hy => row_u8 (hw y (List.mem_of_mem_take hy))⟩
    have hi0 : i = 0 := by have := (List.getElem?_eq_some_iff.1 hi).1; simp at this; omega
    subst hi0
    have hjl := (List.getElem?_eq_some_iff.1 hj).1
    rw [show j * (Kd.int .u8).sz + 0 = j by show j * 1 + 0 = j; omega, hc j (by omega)]
    simp at hi
    subst hi
    rw [List.getElem?_take_of_lt (by omega)] at hj
    rw [List.getD_eq_getElem?_getD, hj]
    rfl
theorem ck_back_law (A0 : Option Addr) (n0 c0 : Nat) (zs0 : List Int) (A1 : Option Addr) (n1 c1 : Nat) (zs1 : List Int) (A2 : Option Addr) (n2 c2 : Nat) (zs2 : List Int) (kind at_ ch : Int) (W : World) (h0 : IsRow .u8 W A0 n0 c0 zs0) (h1 : IsRow .u8 W A1 n1 c1 zs1) (h2 : IsRow .u8 W A2 n2 c2 zs2)
    (h3 : (Lit.int .u8 kind).wf = true) (h4 : (Lit.int .u16 at_).wf = true) (h5 : (Lit.int .u8 ch).wf = true) (hT : Tab W) :
    Calls Tryd.prog 5 #[.slice A0 n0 c0, .slice A1 n1 c1, .slice A2 n2 c2, .int .u8 kind, .int .u16 at_, .int .u8 ch] W fun e w' => e = .returned (.bool true) ∧ Below W.heap.size W w' := by
  by_cases hb : 2000 < n0 ∨ 2000 < n1 ∨ 2000 < n2
  · exact ck_back_big A0 n0 c0 A1 n1 c1 A2 n2 c2 kind at_ ch W hT hb
  · obtain ⟨hC0, hl0, hlc0, hr0⟩ := row_bytes h0
    obtain ⟨hC1, hl1, hlc1, hr1⟩ := row_bytes h1
    obtain ⟨hC2, hl2, hlc2, hr2⟩ := row_bytes h2
    obtain ⟨a, ha⟩ : ∃ a, zs0.take n0 = a := ⟨_, rfl⟩
    obtain ⟨d, hd⟩ : ∃ d, zs1.take n1 = d := ⟨_, rfl⟩
    obtain ⟨bh, hbh⟩ : ∃ b, zs2.take n2 = b := ⟨_, rfl⟩
    rw [ha] at hC0 hl0 hr0
    rw [hd] at hC1 hl1 hr1
    rw [hbh] at hC2 hl2 hr2
    have hk := row_u8 h3
    have hat := row_u16 h4
    have hch := row_u8 h5
    have hcr := ck_crc_range (ck_main kind d)
    have hPB : IsB (ck_put kind d) := isB_app (main_bytes hk hr1) (fix_bytes _ hcr)
    have := ck_back_walk A0 c0 a A1 c1 d A2 c2 bh kind at_ ch _ _ W (by rw [hl0]; exact hC0) (by omega) (by rw [hl1]; exact hC1) (by omega) (by rw [hl2]; exact hC2) (by omega) (by omega) (by omega) (by omega)
      hr0 hr1 hr2 (isB_app (isB_app hr0 hPB) hr2) hk hat hch hT (ck_law hr0 hr1 hr2 hk (by omega) (by omega) (by omega) hat hch)
    rwa [hl0, hl1, hl2] at this
end Go.Proofs.YtigcgdhihaibbaaDoor
