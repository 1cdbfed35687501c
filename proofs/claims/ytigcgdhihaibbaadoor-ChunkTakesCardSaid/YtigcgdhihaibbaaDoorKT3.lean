/- Chunk: the law ChunkTakes: its walk. -/
import Derived.Test.YtigcgdhihaibbaaDoorK6
import Derived.Test.YtigcgdhihaibbaaDoorK5G
namespace Go.Proofs.YtigcgdhihaibbaaDoor.PLz
open Go.RowKit Go.Proofs.YtigcgdhihaibbaaDoorW.PrintWords Go.Proofs.YtigcgdhihaibbaaDoorW.PrintLast Go.Proofs.YtigcgdhihaibbaaDoorW.PrintMore
attribute [local go_sem] max2_int min2_int max_two min_two max_three min_three max_four min_four   -- for this text's walks alone
set_option linter.unusedVariables false
set_option linter.unusedSimpArgs false
set_option maxHeartbeats 4000000
set_option maxRecDepth 20000

theorem tk_C {W : World} {A : Option Addr} {xs : List Int} (h : ReadsInt W .u8 A xs.length xs) (hl : xs.length ≤ 1000000) : Kd.C (Kd.int .u8) W A xs.length xs := by
  refine ⟨rfl, by omega, fun hp => ?_⟩
  obtain ⟨ad, rfl, hc⟩ := h.2.2 hp
  refine ⟨ad, rfl, fun j p hj => ⟨[.int .u8 p], rfl, rfl, fun i u hi => ?_⟩⟩
  have hi0 : i = 0 := by have := (List.getElem?_eq_some_iff.1 hi).1; simp at this; omega
  subst hi0
  have hjl := (List.getElem?_eq_some_iff.1 hj).1
  rw [show j * (Kd.int .u8).sz + 0 = j by show j * 1 + 0 = j; omega, hc j hjl]
  simp at hi
  subst hi
  rw [List.getD_eq_getElem?_getD, hj]
  rfl
theorem tk_bytesOf (s : ByteArray) : IsB (bytesOf s) := by
  intro x hx
  unfold bytesOf at hx
  obtain ⟨y, _, rfl⟩ := List.mem_map.1 hx
  have := y.toNat_lt
  omega
theorem tk_row (W : World) (s : ByteArray) (hs : s.size ≤ 4000) : Kd.C (Kd.int .u8) (Lib.bytesWorld W 5 s) (some ⟨W.heap.size, 0, none⟩) (bytesOf s).length (bytesOf s) ∧ (bytesOf s).length = s.size ∧ s.size ≤ grownCap W s.size 0 5 := by
  have hl := bytesOf_length s
  refine ⟨tk_C (by rw [hl]; exact bytes_reads W 5 s (by omega)) (by omega), hl, grownCap_ge _ _ _ _⟩
theorem ck_takes_big (s : ByteArray) (at_ most : Int) (w : World) (hT : Tab w) (h : 4000 < s.size) :
    Calls Tryd.prog 4 #[.string s, .int .i64 at_, .int .i64 most] w fun e w' => e = .returned (.bool true) ∧ Below w.heap.size w w' := by
  have hw := Lib.hid (ck_wakes_calls w hT)
  clear hT
  have hl' : (4000 : Int) < s.size := by omega
  go_enter Tryd.func4, Tryd.ntmps4
  go_wp2_with fail
  refine hw.out.mono ?_; rintro e w1 ⟨rfl, b⟩
  go_wp2_with fail
  go_ret
  exact ⟨rfl, b⟩
theorem ck_takes_walk (s : ByteArray) (at_ most : Int) (k how sz n er k2 n2 e2 szq : Int) (pk : Bool) (bd : ByteArray) (body d2 : List Int) (w : World) (hs : s.size ≤ 4000) (hT : Tab w)
    (hSk : ck_read (bytesOf s) at_ = some (k, how, szq, body, n, er)) (hTk : PLzG.ck_take (bytesOf s) at_ most = some (k2, d2, n2, e2))
    (hc10 : ∀ W : World, Calls Tryd.prog 10 #[.string s, .int .i64 at_] W fun e w' => e = .returned (.tuple #[.agg #[.int .u8 k, .bool pk, .int .i64 sz, .string bd, .int .i64 n], .int .i64 er]) ∧ Below W.heap.size W w')
    (hc12 : ∀ W : World, Calls Tryd.prog 12 #[.string s, .int .i64 at_, .int .i64 most] W fun e w' => e = .returned (.tuple #[.int .u8 k2, .string (strOfNums d2), .int .i64 n2, .int .i64 e2]) ∧ Below W.heap.size W w') :
    Calls Tryd.prog 4 #[.string s, .int .i64 at_, .int .i64 most] w fun e w' => e = .returned (.bool true) ∧ Below w.heap.size w w' := by
  have hl' : ¬ (4000 : Int) < s.size := by omega
  obtain ⟨sd, hsd⟩ : ∃ o, o = strOfNums d2 := ⟨_, rfl⟩
  rw [← hsd] at hc12
  have Hsd := Lib.hid hsd
  have HT := Lib.hid hT
  have HS := Lib.hid hSk
  have HK := Lib.hid hTk
  have H10 := Lib.hid hc10
  have H12 := Lib.hid hc12
  have HB := Lib.hid (tk_bytesOf s)
  clear hsd hT hSk hTk hc10 hc12
  have kb := print_bytes (P := Tryd.prog) 9 22 5 Tryd.underlying9 Tryd.underlying22 (by kernel_rfl) s w
  obtain ⟨hC, hbl, hcap⟩ := tk_row w s hs
  have B1 := Lib.hid (bytes_below (Below.refl w.heap.size w) (Nat.le_refl _) 5 s)
  have SK := ck_Skip_calls (some ⟨w.heap.size, 0, none⟩) (grownCap w s.size 0 5) (bytesOf s) at_ k how szq body n er (Lib.bytesWorld w 5 s) hC (by rw [hbl]; exact hcap) HB.out (by rw [hbl]; omega) (HT.out.keep B1.out) HS.out
  rw [hbl] at SK
  have SK := Lib.hid SK
  clear hC hbl hcap
  go_enter Tryd.func4, Tryd.ntmps4
  go_wp2_with fail
  refine SK.out.mono ?_; rintro e w1 ⟨rfl, b1⟩
  have B2 := Lib.hid (below_then B1.out B1.out.size b1)
  clear b1 SK kb B1
  go_wp2_with fail
  refine (H10.out _).mono ?_; rintro e w2 ⟨rfl, b2⟩
  have B3 := Lib.hid (below_then B2.out B2.out.size b2)
  have hn := blk_new w2 (.cells #[.int .u8 k, .bool pk, .int .i64 sz, .string bd, .int .i64 n] 31)
  have HBN := Lib.hid hn
  have B4 := Lib.hid (below_alloc B3.out (.cells #[.int .u8 k, .bool pk, .int .i64 sz, .string bd, .int .i64 n] 31))
  obtain ⟨p, hp⟩ : ∃ p, w2.heap.size = p := ⟨_, rfl⟩
  obtain ⟨W, hW⟩ : ∃ W, w2.alloc (.cells #[.int .u8 k, .bool pk, .int .i64 sz, .string bd, .int .i64 n] 31) = W := ⟨_, rfl⟩
  have HZ := Lib.hid (blk_new w2 (.cells #[.int .u8 0, .bool false, .int .i64 0, .string ⟨#[]⟩, .int .i64 0] 31))
  have HWS := Lib.hid (show (w2.alloc (.cells #[.int .u8 0, .bool false, .int .i64 0, .string ⟨#[]⟩, .int .i64 0] 31)).setRow p #[.int .u8 k, .bool pk, .int .i64 sz, .string bd, .int .i64 n] = W by rw [← hW, ← hp]; exact World.setRow_alloc_new _ _ _ _)
  rw [hp, hW] at HBN
  rw [hp] at HZ
  rw [hW] at B4
  have HW := Lib.hid hW
  clear b2 B2 B3 hn hW
  have c0 : W.cell? ⟨p, 0, none⟩ = some (.int .u8 k) := blk_cell HBN.out 0
  have c4 : W.cell? ⟨p, 4, none⟩ = some (.int .i64 n) := blk_cell HBN.out 4
  have kb := print_bytes (P := Tryd.prog) 9 22 5 Tryd.underlying9 Tryd.underlying22 (by kernel_rfl) s W
  obtain ⟨hC, hbl, hcap⟩ := tk_row W s hs
  have B5 := Lib.hid (below_then B4.out B4.out.size (bytes_below (Below.refl W.heap.size W) (Nat.le_refl _) 5 s))
  have TK := PLzG.ck_Take_calls (some ⟨W.heap.size, 0, none⟩) (grownCap W s.size 0 5) (bytesOf s) at_ most k2 d2 n2 e2 (Lib.bytesWorld W 5 s) hC (by rw [hbl]; exact hcap) HB.out (by rw [hbl]; omega) (HT.out.keep B5.out) HK.out
  rw [hbl] at TK
  have TK := Lib.hid TK
  clear hC hbl hcap B4
  go_wp2_with (first | ((with_reducible refine gate_store (p := 10) rfl ?_); refine wpList_store_row rfl 31 (.tmp 10) (.tmp 34) rfl p #[.int .u8 k, .bool pk, .int .i64 sz, .string bd, .int .i64 n] rfl rfl 31 _ HZ.out (by kernel_rfl) rfl (by simp [Value.oneCell']) ?_; rw [HWS.out]))
  refine TK.out.mono ?_; rintro e w4 ⟨A4, cc4, rfl, q4, R4, b4⟩
  have B6 := Lib.hid (below_then B5.out B5.out.size b4)
  have HC4 := Lib.hid (wire_R_C' R4)
  clear b4 R4 TK kb c0 c4 B5
  go_wp2_with fail
  refine (H12.out _).mono ?_; rintro e w5 ⟨rfl, b5⟩
  have B7 := Lib.hid (below_then B6.out B6.out.size b5)
  have k0 := Kd.C_string (P := Tryd.prog) (src := 22) (dst := 9) (c := cc4) Tryd.underlying22 (by kernel_rfl) Tryd.underlying9 (Kd.C_below HC4.out b5)
  rw [← Hsd.out] at k0
  clear b5 B6
  go_wp2_with fail
  refine (ck_wakes_calls w5 (HT.out.keep B7.out)).mono ?_; rintro e w6 ⟨rfl, b6⟩
  have B8 := Lib.hid (below_then B7.out B7.out.size b6)
  clear b6 k0
  go_wp2_with fail
  go_ret
  exact ⟨rfl, B8.out⟩
end Go.Proofs.YtigcgdhihaibbaaDoor.PLz
