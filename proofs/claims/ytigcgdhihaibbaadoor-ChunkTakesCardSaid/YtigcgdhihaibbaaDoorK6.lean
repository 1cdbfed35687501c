/- Chunk: what is known of a chunk (wakes). No condition. -/
import Derived.Test.YtigcgdhihaibbaaDoorK5
import Derived.Test.YtigcgdhihaibbaaDoorK2
import Derived.Lib.SlBytesConst
namespace Go.Proofs.YtigcgdhihaibbaaDoor.PLz
open Go.RowKit Go.Proofs.YtigcgdhihaibbaaDoorW.PrintWords Go.Proofs.YtigcgdhihaibbaaDoorW.PrintLast Go.Proofs.YtigcgdhihaibbaaDoorW.PrintMore
attribute [local go_sem] max2_int min2_int max_two min_two max_three min_three max_four min_four   -- for this text's walks alone
set_option linter.unusedVariables false
set_option linter.unusedSimpArgs false
set_option maxHeartbeats 4000000
set_option maxRecDepth 20000

theorem cell_lt {W : World} {q : Addr} {v : Value} (h : W.cell? q = some v) : q.block < W.heap.size := by
  unfold World.cell? at h
  cases hb : W.heap[q.block]? with
  | none => rw [hb] at h; cases h
  | some o => exact (Array.getElem?_eq_some_iff.1 hb).1
/-- an own row that is not empty: where it lies; its cells can be written -/
theorem ck_own {W : World} {B : Nat} {A : Option Addr} {c : Nat} {xs : List Int} (h : Kd.R (Kd.int .u8) 5 W B (fun _ => True) (.slice A xs.length c) xs) (hx : 0 < xs.length) :
    ∃ g, A = some ⟨g, 0, none⟩ ∧ B ≤ g ∧ ∀ i, i < xs.length → W.cell? ⟨g, i, none⟩ = some (.int .u8 (xs.getD i 0)) ∧ W.frozen? ⟨g, i, none⟩ = false := by
  have hC := wire_R_C h
  rcases (Kd.own_of_R h).2 with ⟨h1, hn⟩ | ⟨g, cap, cur, h1, hB, hh, hc, _⟩
  · omega
  · injection h1 with h1 h2 h3
    subst h1
    refine ⟨g, rfl, hB, fun i hi => ?_⟩
    obtain ⟨ad, e1, hcell⟩ := lz_get_cell hC i hi
    obtain rfl := Option.some.inj e1
    rw [Addr.add_lit, Nat.zero_add] at hcell
    exact ⟨hcell, blk_frozen hh i⟩
/-- a row keeps, where another block is written -/
theorem ck_C_far {W : World} {A : Option Addr} {xs : List Int} {g : Nat} (h : Kd.C (Kd.int .u8) W A xs.length xs) (hne : ∀ ad, A = some ad → ad.block ≠ g) (k : Nat) (v : Value) : Kd.C (Kd.int .u8) (W.setCell ⟨g, k, none⟩ v) A xs.length xs := by
  refine ⟨rfl, h.2.1, fun hp => ?_⟩
  obtain ⟨ad, rfl, -⟩ := lz_get_cell h 0 hp
  refine ⟨ad, rfl, fun j p hj => ⟨[.int .u8 p], rfl, rfl, fun i u hi => ?_⟩⟩
  have hi0 : i = 0 := by have := (List.getElem?_eq_some_iff.1 hi).1; simp at this; omega
  subst hi0
  have hjl := (List.getElem?_eq_some_iff.1 hj).1
  obtain ⟨ad2, e2, hcell⟩ := lz_get_cell h j hjl
  obtain rfl := Option.some.inj e2
  rw [show j * (Kd.int .u8).sz + 0 = j by show j * 1 + 0 = j; omega]
  rw [List.getD_eq_getElem?_getD, hj] at hcell
  simp at hi
  subst hi
  have hb : (W.setCell ⟨g, k, none⟩ v).heap[(ad.add j).block]? = W.heap[(ad.add j).block]? := by
    rw [show (ad.add j).block = ad.block by unfold Addr.add; split <;> rfl]
    exact Below.heap_setCell W ⟨g, k, none⟩ v ad.block (hne ad rfl)
  have e : (W.setCell ⟨g, k, none⟩ v).cell? (ad.add j) = W.cell? (ad.add j) := World.cell?_of_block (a := ad.add j) hb
  rw [e]
  exact hcell
theorem ck_wakes_calls (w : World) (hT : Tab w) : Calls Tryd.prog 6 #[] w fun e w' => e = .returned (.bool true) ∧ Below w.heap.size w w' := by
  have hx1 : (w.alloc (.cells #[.int .u8 120, .int .u8 121] 5 (2, 3))).heap[w.heap.size]? = some (.cells #[.int .u8 120, .int .u8 121] 5 (2, 3)) := heap_alloc_new w _
  have hb0 : Below w.heap.size w (w.alloc (.cells #[.int .u8 120, .int .u8 121] 5 (2, 3))) := below_alloc (Below.refl _ _) _
  have hy := heap_alloc_new (w.alloc (.cells #[.int .u8 120, .int .u8 121] 5 (2, 3))) (.cells #[.int .u8 97] 5 (1, 2))
  have hs : (w.alloc (.cells #[.int .u8 120, .int .u8 121] 5 (2, 3))).heap.size = w.heap.size + 1 := by simp
  rw [hs] at hy
  have hx2 : ((w.alloc (.cells #[.int .u8 120, .int .u8 121] 5 (2, 3))).alloc (.cells #[.int .u8 97] 5 (1, 2))).heap[w.heap.size]? = some (.cells #[.int .u8 120, .int .u8 121] 5 (2, 3)) := (Below.heap_alloc _ _ _ (by rw [hs]; omega)).trans hx1
  have k1 := Lib.run_convert_bytes_const (P := Tryd.prog) w 22 5 #[.int .u8 120, .int .u8 121] 2 2 Tryd.underlying22 (by kernel_rfl)
  have k2 := Lib.run_convert_bytes_const (P := Tryd.prog) (w.alloc (.cells #[.int .u8 120, .int .u8 121] 5 (2, 3))) 22 5 #[.int .u8 97] 1 1 Tryd.underlying22 (by kernel_rfl)
  rw [hs] at k2
  have HC0 := Lib.hid (wire_lit (l := [120, 121]) hx2 (by decide))
  have HC2 := Lib.hid (wire_lit (l := [97]) hy (by decide))
  have HB0 := Lib.hid (show Below w.heap.size w ((w.alloc (.cells #[.int .u8 120, .int .u8 121] 5 (2, 3))).alloc (.cells #[.int .u8 97] 5 (1, 2))) from below_alloc hb0 _)
  have HT := Lib.hid hT
  clear hx1 hb0 hy hs hx2 hT
  have hput : [120, 121] ++ ck_put 7 [97] = ([120, 121, 7, 0, 1, 1, 97, 86, 110, 33, 181] : List Int) := by decide +kernel
  have htake : ck_take ([120, 121, 7, 0, 1, 1, 97, 86, 110, 33, 181] : List Int) 2 5 = some (7, [97], 11, 0) := by decide +kernel
  have hskip : ck_read ([120, 121, 7, 0, 1, 1, 97, 86, 110, 33, 181] : List Int) 2 = some (7, 0, 1, [97], 11, 0) := by decide +kernel
  have hskip2 : ck_read (([120, 121, 7, 0, 1, 1, 97, 86, 110, 33, 181] : List Int).set (6 : Int).toNat 98) 2 = some (0, 0, 0, [], 0, 5) := by decide +kernel
  have hlen : ([120, 121, 7, 0, 1, 1, 97, 86, 110, 33, 181] : List Int).length = 11 := rfl
  have hbytes : IsB ([120, 121, 7, 0, 1, 1, 97, 86, 110, 33, 181] : List Int) := fun x hx => by
    have hall : (([120, 121, 7, 0, 1, 1, 97, 86, 110, 33, 181] : List Int).all fun x => decide (0 ≤ x ∧ x < 256)) = true := by decide
    simpa using List.all_eq_true.1 hall x hx
  have hbytes2 : IsB (([120, 121, 7, 0, 1, 1, 97, 86, 110, 33, 181] : List Int).set (6 : Int).toNat 98) := fun x hx => by
    have hall : ((([120, 121, 7, 0, 1, 1, 97, 86, 110, 33, 181] : List Int).set (6 : Int).toNat 98).all fun x => decide (0 ≤ x ∧ x < 256)) = true := by decide
    simpa using List.all_eq_true.1 hall x hx
  obtain ⟨L, hL⟩ : ∃ L : List Int, ([120, 121, 7, 0, 1, 1, 97, 86, 110, 33, 181] : List Int) = L := ⟨_, rfl⟩
  rw [hL] at hput htake hskip hskip2 hlen hbytes hbytes2
  clear hL
  have HP := Lib.hid hput
  have HTK := Lib.hid htake
  have HSK := Lib.hid hskip
  have HSK2 := Lib.hid hskip2
  have HLN := Lib.hid hlen
  have HBY := Lib.hid hbytes
  have HBY2 := Lib.hid hbytes2
  clear hput htake hskip hskip2 hlen hbytes hbytes2
  go_enter Tryd.func6, Tryd.ntmps6
  go_wp2_with fail
  refine (ck_Put_calls (some ⟨w.heap.size, 0, none⟩) 2 [120, 121] 7 (some ⟨w.heap.size + 1, 0, none⟩) 1 [97] _ HC0.out (by decide) HC2.out (by decide) (fun x hx => by simp at hx; omega) (by decide) (by decide) (fun x hx => by simp at hx; omega) (by decide) (HT.out.keep HB0.out) L HP.out).mono ?_; rintro e w1 ⟨A, c, rfl, q, R1, b1⟩
  have HB1 := Lib.hid (below_then HB0.out HB0.out.size b1)
  have HR1 := Lib.hid (wire_R_lower R1 HB0.out.size)
  clear R1 b1 HB0 HC0 HC2 k1 k2
  obtain ⟨g, rfl, hg, hcells⟩ := ck_own HR1.out (by rw [HLN.out]; decide)
  go_wp2_with fail
  have hll := HLN.out
  refine (ck_Take_calls _ c L 2 5 7 [97] 11 0 w1 (wire_R_C HR1.out) q HBY.out (by omega) (HT.out.keep HB1.out) HTK.out).mono ?_; rintro e w2 ⟨A2, c2, rfl, q2, C2, b2⟩
  have HB2 := Lib.hid (below_then HB1.out HB1.out.size b2)
  have HR2 := Lib.hid (Kd.R_below HR1.out b2)
  have HAP := Lib.hid (show ∀ ad, A2 = some ad → ad.block ≠ g from fun ad e => by
    obtain ⟨g3, e3, h3, _⟩ := ck_own (xs := [97]) C2 (by decide)
    subst e3
    injection e with e
    subst e
    have := (hcells 0 (by rw [HLN.out]; decide)).1
    have hlt := cell_lt this
    show g3 ≠ g
    have : g < w1.heap.size := hlt
    omega)
  have HCD := Lib.hid (wire_R_C' (xs := [97]) C2)
  clear b2 HB1 HR1 C2 HTK hll hcells
  go_wp2_with fail
  have hll := HLN.out
  refine (ck_Skip_calls _ c L 2 7 0 1 [97] 11 0 w2 (wire_R_C HR2.out) q HBY.out (by omega) (HT.out.keep HB2.out) HSK.out).mono ?_; rintro e w3 ⟨rfl, b3⟩
  have HB3 := Lib.hid (below_then HB2.out HB2.out.size b3)
  have HR3 := Lib.hid (Kd.R_below HR2.out b3)
  have HCD := Lib.hid (Kd.C_below HCD.out b3)
  clear b3 HB2 HR2 HSK
  obtain ⟨g2, e2, hg2, hce⟩ := ck_own HR3.out (by rw [hll]; decide)
  injection e2 with e2
  injection e2 with e2
  subst e2
  have hc6 := (hce 6 (by rw [hll]; decide)).1
  have hf6 := (hce 6 (by rw [hll]; decide)).2
  clear hce
  have hl11 : (L.length : Int) = 11 := by omega
  have R4 := Kd.R_put HR3.out 6 98
  rw [show (6 : Int).toNat = 6 from rfl] at R4
  have HB4 := Lib.hid (HB3.out.setCell (p := ⟨g, 6, none⟩) hg (.int .u8 98))
  obtain ⟨L2, hL2⟩ : ∃ L2, L.set 6 98 = L2 := ⟨_, rfl⟩
  have hl2 : L2.length = L.length := by rw [← hL2, List.length_set]
  have R5 := R4.1
  rw [hL2, ← hl2] at R5
  rw [show (6 : Int).toNat = 6 from rfl] at HSK2 HBY2
  rw [hL2] at HSK2 HBY2
  have HCD4 : Kd.C (Kd.int .u8) (w3.setCell ⟨g, 6, none⟩ (.int .u8 98)) A2 1 [97] := ck_C_far (xs := [97]) HCD.out HAP.out 6 _
  have SK := Lib.hid (ck_Skip_calls (some ⟨g, 0, none⟩) c L2 2 0 0 0 [] 0 5 (w3.setCell ⟨g, 6, none⟩ (.int .u8 98)) (wire_R_C R5) (by omega) HBY2.out (by omega) (HT.out.keep HB4.out) HSK2.out)
  rw [hl2] at SK
  clear R4 R5 hL2 hl2 hll
  have k5 := Kd.C_string (P := Tryd.prog) (src := 22) (dst := 9) (n := 1) (c := c2) Tryd.underlying22 (by kernel_rfl) Tryd.underlying9 HCD4
  rw [show strOfNums [97] = ⟨#[97]⟩ by decide +kernel] at k5
  go_wp2_with fail
  refine SK.out.mono ?_; rintro e w5 ⟨rfl, b5⟩
  have HB5 := Lib.hid (below_then HB4.out HB4.out.size b5)
  have HCD5 := Kd.C_below HCD4 b5
  clear k5 hc6 hf6
  have k5 := Kd.C_string (P := Tryd.prog) (src := 22) (dst := 9) (n := 1) (c := c2) Tryd.underlying22 (by kernel_rfl) Tryd.underlying9 HCD5
  rw [show strOfNums [97] = ⟨#[97]⟩ by decide +kernel] at k5
  clear HCD4 HCD5 b5
  go_wp2_with fail
  go_ret
  exact ⟨rfl, HB5.out⟩
end Go.Proofs.YtigcgdhihaibbaaDoor.PLz
